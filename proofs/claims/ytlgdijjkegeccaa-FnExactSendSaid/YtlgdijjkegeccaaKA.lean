/- The seat's types, as the plain steps want them. The values of the law's types: how they are laid out, what they weigh, how they are marked. Contracts: small functions of the filter. Contracts: parts of names, terms. -/
import Derived.Test.YtlgdijjkegeccaaBvM5
import Derived.Test.YtlgdijjkegeccaaProg
namespace Go.Proofs.Ytlgdijjkegeccaa
open Go Go.RowKit Go.Bv
set_option linter.unusedSimpArgs false
set_option linter.unusedVariables false
set_option maxRecDepth 4000
noncomputable abbrev P := Try.prog
theorem mixed : P.follows .mixedOrders = true := by rfl
noncomputable abbrev G : Tab := tabOf P
theorem hT : TabOk P G := tabOf_ok P mixed
theorem kind3 : G.kind 3 = .int .i64 := kind_eq Try.type3 Try.underlying3
theorem size3 : G.size 3 = 1 := by rw [size_eq Try.type3]; rfl
theorem bytes3 : G.bytes 3 = 8 := by rw [bytes_eq Try.type3]; rfl
theorem kind4 : G.kind 4 = .bool := kind_eq Try.type4 Try.underlying4
theorem size4 : G.size 4 = 1 := by rw [size_eq Try.type4]; rfl
theorem bytes4 : G.bytes 4 = 1 := by rw [bytes_eq Try.type4]; rfl
theorem kind5 : G.kind 5 = .int .u8 := kind_eq Try.type5 Try.underlying5
theorem size5 : G.size 5 = 1 := by rw [size_eq Try.type5]; rfl
theorem bytes5 : G.bytes 5 = 1 := by rw [bytes_eq Try.type5]; rfl
theorem kind9 : G.kind 9 = .str := kind_eq Try.type9 Try.underlying9
theorem size9 : G.size 9 = 1 := by rw [size_eq Try.type9]; rfl
theorem bytes9 : G.bytes 9 = 16 := by rw [bytes_eq Try.type9]; rfl
theorem kind22 : G.kind 22 = .sl 51 := kind_eq Try.type22 Try.underlying22
theorem size22 : G.size 22 = 1 := by rw [size_eq Try.type22]; rfl
theorem bytes22 : G.bytes 22 = 24 := by rw [bytes_eq Try.type22]; rfl
theorem kind23 : G.kind 23 = .sl 119 := kind_eq Try.type23 Try.underlying23
theorem size23 : G.size 23 = 1 := by rw [size_eq Try.type23]; rfl
theorem bytes23 : G.bytes 23 = 24 := by rw [bytes_eq Try.type23]; rfl
theorem kind24 : G.kind 24 = .sl 3 := kind_eq Try.type24 Try.underlying24
theorem size24 : G.size 24 = 1 := by rw [size_eq Try.type24]; rfl
theorem bytes24 : G.bytes 24 = 24 := by rw [bytes_eq Try.type24]; rfl
theorem kind26 : G.kind 26 = .st [3, 3, 22, 3, 23, 24, 24, 4] := kind_eq Try.type26 Try.underlying26
theorem size26 : G.size 26 = 8 := by rw [size_eq Try.type26]; rfl
theorem bytes26 : G.bytes 26 = 128 := by rw [bytes_eq Try.type26]; rfl
theorem off26_0 : G.off 26 0 = 0 := by rw [off_eq (f := 0) Try.underlying26 rfl]; rfl
theorem off26_1 : G.off 26 1 = 1 := by rw [off_eq (f := 1) Try.underlying26 rfl]; rfl
theorem off26_2 : G.off 26 2 = 2 := by rw [off_eq (f := 2) Try.underlying26 rfl]; rfl
theorem off26_3 : G.off 26 3 = 3 := by rw [off_eq (f := 3) Try.underlying26 rfl]; rfl
theorem off26_4 : G.off 26 4 = 4 := by rw [off_eq (f := 4) Try.underlying26 rfl]; rfl
theorem off26_5 : G.off 26 5 = 5 := by rw [off_eq (f := 5) Try.underlying26 rfl]; rfl
theorem off26_6 : G.off 26 6 = 6 := by rw [off_eq (f := 6) Try.underlying26 rfl]; rfl
theorem off26_7 : G.off 26 7 = 7 := by rw [off_eq (f := 7) Try.underlying26 rfl]; rfl
theorem kind29 : G.kind 29 = .st [3, 3, 9] := kind_eq Try.type29 Try.underlying29
theorem size29 : G.size 29 = 3 := by rw [size_eq Try.type29]; rfl
theorem bytes29 : G.bytes 29 = 32 := by rw [bytes_eq Try.type29]; rfl
theorem off29_0 : G.off 29 0 = 0 := by rw [off_eq (f := 0) Try.underlying29 rfl]; rfl
theorem off29_1 : G.off 29 1 = 1 := by rw [off_eq (f := 1) Try.underlying29 rfl]; rfl
theorem off29_2 : G.off 29 2 = 2 := by rw [off_eq (f := 2) Try.underlying29 rfl]; rfl
theorem kind31 : G.kind 31 = .st [3, 29, 3, 3] := kind_eq Try.type31 Try.underlying31
theorem size31 : G.size 31 = 6 := by rw [size_eq Try.type31]; rfl
theorem bytes31 : G.bytes 31 = 56 := by rw [bytes_eq Try.type31]; rfl
theorem off31_0 : G.off 31 0 = 0 := by rw [off_eq (f := 0) Try.underlying31 rfl]; rfl
theorem off31_1 : G.off 31 1 = 1 := by rw [off_eq (f := 1) Try.underlying31 rfl]; rfl
theorem off31_2 : G.off 31 2 = 4 := by rw [off_eq (f := 2) Try.underlying31 rfl]; rfl
theorem off31_3 : G.off 31 3 = 5 := by rw [off_eq (f := 3) Try.underlying31 rfl]; rfl
theorem kind34 : G.kind 34 = .sl 29 := kind_eq Try.type34 Try.underlying34
theorem size34 : G.size 34 = 1 := by rw [size_eq Try.type34]; rfl
theorem bytes34 : G.bytes 34 = 24 := by rw [bytes_eq Try.type34]; rfl
theorem kind35 : G.kind 35 = .sl 70 := kind_eq Try.type35 Try.underlying35
theorem size35 : G.size 35 = 1 := by rw [size_eq Try.type35]; rfl
theorem bytes35 : G.bytes 35 = 24 := by rw [bytes_eq Try.type35]; rfl
theorem kind37 : G.kind 37 = .st [3, 3, 34, 3, 35, 24, 24, 4] := kind_eq Try.type37 Try.underlying37
theorem size37 : G.size 37 = 8 := by rw [size_eq Try.type37]; rfl
theorem bytes37 : G.bytes 37 = 128 := by rw [bytes_eq Try.type37]; rfl
theorem off37_0 : G.off 37 0 = 0 := by rw [off_eq (f := 0) Try.underlying37 rfl]; rfl
theorem off37_1 : G.off 37 1 = 1 := by rw [off_eq (f := 1) Try.underlying37 rfl]; rfl
theorem off37_2 : G.off 37 2 = 2 := by rw [off_eq (f := 2) Try.underlying37 rfl]; rfl
theorem off37_3 : G.off 37 3 = 3 := by rw [off_eq (f := 3) Try.underlying37 rfl]; rfl
theorem off37_4 : G.off 37 4 = 4 := by rw [off_eq (f := 4) Try.underlying37 rfl]; rfl
theorem off37_5 : G.off 37 5 = 5 := by rw [off_eq (f := 5) Try.underlying37 rfl]; rfl
theorem off37_6 : G.off 37 6 = 6 := by rw [off_eq (f := 6) Try.underlying37 rfl]; rfl
theorem off37_7 : G.off 37 7 = 7 := by rw [off_eq (f := 7) Try.underlying37 rfl]; rfl
theorem kind45 : G.kind 45 = .sl 31 := kind_eq Try.type45 Try.underlying45
theorem size45 : G.size 45 = 1 := by rw [size_eq Try.type45]; rfl
theorem bytes45 : G.bytes 45 = 24 := by rw [bytes_eq Try.type45]; rfl
theorem kind51 : G.kind 51 = .st [3, 3, 9] := kind_eq Try.type51 Try.underlying51
theorem size51 : G.size 51 = 3 := by rw [size_eq Try.type51]; rfl
theorem bytes51 : G.bytes 51 = 32 := by rw [bytes_eq Try.type51]; rfl
theorem off51_0 : G.off 51 0 = 0 := by rw [off_eq (f := 0) Try.underlying51 rfl]; rfl
theorem off51_1 : G.off 51 1 = 1 := by rw [off_eq (f := 1) Try.underlying51 rfl]; rfl
theorem off51_2 : G.off 51 2 = 2 := by rw [off_eq (f := 2) Try.underlying51 rfl]; rfl
theorem kind61 : G.kind 61 = .sl 5 := kind_eq Try.type61 Try.underlying61
theorem size61 : G.size 61 = 1 := by rw [size_eq Try.type61]; rfl
theorem bytes61 : G.bytes 61 = 24 := by rw [bytes_eq Try.type61]; rfl
theorem kind68 : G.kind 68 = .sl 115 := kind_eq Try.type68 Try.underlying68
theorem size68 : G.size 68 = 1 := by rw [size_eq Try.type68]; rfl
theorem bytes68 : G.bytes 68 = 24 := by rw [bytes_eq Try.type68]; rfl
theorem kind70 : G.kind 70 = .st [3, 3, 3, 3, 3, 3, 68] := kind_eq Try.type70 Try.underlying70
theorem size70 : G.size 70 = 7 := by rw [size_eq Try.type70]; rfl
theorem bytes70 : G.bytes 70 = 72 := by rw [bytes_eq Try.type70]; rfl
theorem off70_0 : G.off 70 0 = 0 := by rw [off_eq (f := 0) Try.underlying70 rfl]; rfl
theorem off70_1 : G.off 70 1 = 1 := by rw [off_eq (f := 1) Try.underlying70 rfl]; rfl
theorem off70_2 : G.off 70 2 = 2 := by rw [off_eq (f := 2) Try.underlying70 rfl]; rfl
theorem off70_3 : G.off 70 3 = 3 := by rw [off_eq (f := 3) Try.underlying70 rfl]; rfl
theorem off70_4 : G.off 70 4 = 4 := by rw [off_eq (f := 4) Try.underlying70 rfl]; rfl
theorem off70_5 : G.off 70 5 = 5 := by rw [off_eq (f := 5) Try.underlying70 rfl]; rfl
theorem off70_6 : G.off 70 6 = 6 := by rw [off_eq (f := 6) Try.underlying70 rfl]; rfl
theorem kind100 : G.kind 100 = .ptr := kind_eq Try.type100 Try.underlying100
theorem size100 : G.size 100 = 1 := by rw [size_eq Try.type100]; rfl
theorem bytes100 : G.bytes 100 = 8 := by rw [bytes_eq Try.type100]; rfl
theorem kind115 : G.kind 115 = .st [3, 3, 9] := kind_eq Try.type115 Try.underlying115
theorem size115 : G.size 115 = 3 := by rw [size_eq Try.type115]; rfl
theorem bytes115 : G.bytes 115 = 32 := by rw [bytes_eq Try.type115]; rfl
theorem off115_0 : G.off 115 0 = 0 := by rw [off_eq (f := 0) Try.underlying115 rfl]; rfl
theorem off115_1 : G.off 115 1 = 1 := by rw [off_eq (f := 1) Try.underlying115 rfl]; rfl
theorem off115_2 : G.off 115 2 = 2 := by rw [off_eq (f := 2) Try.underlying115 rfl]; rfl
theorem kind117 : G.kind 117 = .sl 155 := kind_eq Try.type117 Try.underlying117
theorem size117 : G.size 117 = 1 := by rw [size_eq Try.type117]; rfl
theorem bytes117 : G.bytes 117 = 24 := by rw [bytes_eq Try.type117]; rfl
theorem kind119 : G.kind 119 = .st [3, 3, 3, 3, 3, 3, 117] := kind_eq Try.type119 Try.underlying119
theorem size119 : G.size 119 = 7 := by rw [size_eq Try.type119]; rfl
theorem bytes119 : G.bytes 119 = 72 := by rw [bytes_eq Try.type119]; rfl
theorem off119_0 : G.off 119 0 = 0 := by rw [off_eq (f := 0) Try.underlying119 rfl]; rfl
theorem off119_1 : G.off 119 1 = 1 := by rw [off_eq (f := 1) Try.underlying119 rfl]; rfl
theorem off119_2 : G.off 119 2 = 2 := by rw [off_eq (f := 2) Try.underlying119 rfl]; rfl
theorem off119_3 : G.off 119 3 = 3 := by rw [off_eq (f := 3) Try.underlying119 rfl]; rfl
theorem off119_4 : G.off 119 4 = 4 := by rw [off_eq (f := 4) Try.underlying119 rfl]; rfl
theorem off119_5 : G.off 119 5 = 5 := by rw [off_eq (f := 5) Try.underlying119 rfl]; rfl
theorem off119_6 : G.off 119 6 = 6 := by rw [off_eq (f := 6) Try.underlying119 rfl]; rfl
theorem kind128 : G.kind 128 = .ptr := kind_eq Try.type128 Try.underlying128
theorem size128 : G.size 128 = 1 := by rw [size_eq Try.type128]; rfl
theorem bytes128 : G.bytes 128 = 8 := by rw [bytes_eq Try.type128]; rfl
theorem kind131 : G.kind 131 = .sl 4 := kind_eq Try.type131 Try.underlying131
theorem size131 : G.size 131 = 1 := by rw [size_eq Try.type131]; rfl
theorem bytes131 : G.bytes 131 = 24 := by rw [bytes_eq Try.type131]; rfl
theorem kind135 : G.kind 135 = .st [61, 3, 3] := kind_eq Try.type135 Try.underlying135
theorem size135 : G.size 135 = 3 := by rw [size_eq Try.type135]; rfl
theorem bytes135 : G.bytes 135 = 40 := by rw [bytes_eq Try.type135]; rfl
theorem off135_0 : G.off 135 0 = 0 := by rw [off_eq (f := 0) Try.underlying135 rfl]; rfl
theorem off135_1 : G.off 135 1 = 1 := by rw [off_eq (f := 1) Try.underlying135 rfl]; rfl
theorem off135_2 : G.off 135 2 = 2 := by rw [off_eq (f := 2) Try.underlying135 rfl]; rfl
theorem kind149 : G.kind 149 = .sl 24 := kind_eq Try.type149 Try.underlying149
theorem size149 : G.size 149 = 1 := by rw [size_eq Try.type149]; rfl
theorem bytes149 : G.bytes 149 = 24 := by rw [bytes_eq Try.type149]; rfl
theorem kind152 : G.kind 152 = .sl 9 := kind_eq Try.type152 Try.underlying152
theorem size152 : G.size 152 = 1 := by rw [size_eq Try.type152]; rfl
theorem bytes152 : G.bytes 152 = 24 := by rw [bytes_eq Try.type152]; rfl
theorem kind155 : G.kind 155 = .st [3, 3, 9] := kind_eq Try.type155 Try.underlying155
theorem size155 : G.size 155 = 3 := by rw [size_eq Try.type155]; rfl
theorem bytes155 : G.bytes 155 = 32 := by rw [bytes_eq Try.type155]; rfl
theorem off155_0 : G.off 155 0 = 0 := by rw [off_eq (f := 0) Try.underlying155 rfl]; rfl
theorem off155_1 : G.off 155 1 = 1 := by rw [off_eq (f := 1) Try.underlying155 rfl]; rfl
theorem off155_2 : G.off 155 2 = 2 := by rw [off_eq (f := 2) Try.underlying155 rfl]; rfl
theorem kind161 : G.kind 161 = .int .u32 := kind_eq Try.type161 Try.underlying161
theorem size161 : G.size 161 = 1 := by rw [size_eq Try.type161]; rfl
theorem bytes161 : G.bytes 161 = 4 := by rw [bytes_eq Try.type161]; rfl
theorem kindOf3 : kindOf P 3 = .int .i64 := kindOf_eq Try.type3 Try.underlying3
theorem kindOf4 : kindOf P 4 = .bool := kindOf_eq Try.type4 Try.underlying4
theorem kindOf5 : kindOf P 5 = .int .u8 := kindOf_eq Try.type5 Try.underlying5
theorem kindOf9 : kindOf P 9 = .str := kindOf_eq Try.type9 Try.underlying9
theorem kindOf22 : kindOf P 22 = .sl 51 := kindOf_eq Try.type22 Try.underlying22
theorem kindOf23 : kindOf P 23 = .sl 119 := kindOf_eq Try.type23 Try.underlying23
theorem kindOf24 : kindOf P 24 = .sl 3 := kindOf_eq Try.type24 Try.underlying24
theorem kindOf26 : kindOf P 26 = .st [3, 3, 22, 3, 23, 24, 24, 4] := kindOf_eq Try.type26 Try.underlying26
theorem kindOf29 : kindOf P 29 = .st [3, 3, 9] := kindOf_eq Try.type29 Try.underlying29
theorem kindOf31 : kindOf P 31 = .st [3, 29, 3, 3] := kindOf_eq Try.type31 Try.underlying31
theorem kindOf34 : kindOf P 34 = .sl 29 := kindOf_eq Try.type34 Try.underlying34
theorem kindOf35 : kindOf P 35 = .sl 70 := kindOf_eq Try.type35 Try.underlying35
theorem kindOf37 : kindOf P 37 = .st [3, 3, 34, 3, 35, 24, 24, 4] := kindOf_eq Try.type37 Try.underlying37
theorem kindOf45 : kindOf P 45 = .sl 31 := kindOf_eq Try.type45 Try.underlying45
theorem kindOf51 : kindOf P 51 = .st [3, 3, 9] := kindOf_eq Try.type51 Try.underlying51
theorem kindOf61 : kindOf P 61 = .sl 5 := kindOf_eq Try.type61 Try.underlying61
theorem kindOf68 : kindOf P 68 = .sl 115 := kindOf_eq Try.type68 Try.underlying68
theorem kindOf70 : kindOf P 70 = .st [3, 3, 3, 3, 3, 3, 68] := kindOf_eq Try.type70 Try.underlying70
theorem kindOf100 : kindOf P 100 = .ptr := kindOf_eq Try.type100 Try.underlying100
theorem kindOf115 : kindOf P 115 = .st [3, 3, 9] := kindOf_eq Try.type115 Try.underlying115
theorem kindOf117 : kindOf P 117 = .sl 155 := kindOf_eq Try.type117 Try.underlying117
theorem kindOf119 : kindOf P 119 = .st [3, 3, 3, 3, 3, 3, 117] := kindOf_eq Try.type119 Try.underlying119
theorem kindOf128 : kindOf P 128 = .ptr := kindOf_eq Try.type128 Try.underlying128
theorem kindOf131 : kindOf P 131 = .sl 4 := kindOf_eq Try.type131 Try.underlying131
theorem kindOf135 : kindOf P 135 = .st [61, 3, 3] := kindOf_eq Try.type135 Try.underlying135
theorem kindOf149 : kindOf P 149 = .sl 24 := kindOf_eq Try.type149 Try.underlying149
theorem kindOf152 : kindOf P 152 = .sl 9 := kindOf_eq Try.type152 Try.underlying152
theorem kindOf155 : kindOf P 155 = .st [3, 3, 9] := kindOf_eq Try.type155 Try.underlying155
theorem kindOf161 : kindOf P 161 = .int .u32 := kindOf_eq Try.type161 Try.underlying161
theorem tagOf3 : tagOf P 3 = 0 := tagOf_no kindOf3 (by simp)
theorem tagOf4 : tagOf P 4 = 0 := tagOf_no kindOf4 (by simp)
theorem tagOf5 : tagOf P 5 = 0 := tagOf_no kindOf5 (by simp)
theorem tagOf9 : tagOf P 9 = 0 := tagOf_no kindOf9 (by simp)
theorem tagOf22 : tagOf P 22 = 3 := tagOf_eq kindOf22 Try.type51
theorem tagOf23 : tagOf P 23 = 7 := tagOf_eq kindOf23 Try.type119
theorem tagOf24 : tagOf P 24 = 1 := tagOf_eq kindOf24 Try.type3
theorem tagOf34 : tagOf P 34 = 3 := tagOf_eq kindOf34 Try.type29
theorem tagOf35 : tagOf P 35 = 7 := tagOf_eq kindOf35 Try.type70
theorem tagOf45 : tagOf P 45 = 6 := tagOf_eq kindOf45 Try.type31
theorem tagOf61 : tagOf P 61 = 1 := tagOf_eq kindOf61 Try.type5
theorem tagOf68 : tagOf P 68 = 3 := tagOf_eq kindOf68 Try.type115
theorem tagOf100 : tagOf P 100 = 0 := tagOf_no kindOf100 (by simp)
theorem tagOf117 : tagOf P 117 = 3 := tagOf_eq kindOf117 Try.type155
theorem tagOf128 : tagOf P 128 = 0 := tagOf_no kindOf128 (by simp)
theorem tagOf131 : tagOf P 131 = 1 := tagOf_eq kindOf131 Try.type4
theorem tagOf149 : tagOf P 149 = 1 := tagOf_eq kindOf149 Try.type24
theorem tagOf152 : tagOf P 152 = 1 := tagOf_eq kindOf152 Try.type9
theorem tagOf161 : tagOf P 161 = 0 := tagOf_no kindOf161 (by simp)
theorem zero3 : G.zero 3 = some (.int .i64 0) := zero_eq Try.type3 rfl rfl (by simp only [zread, zreads, zread1, kindOf3, tagOf3]; rfl)
theorem zero4 : G.zero 4 = some (.bool false) := zero_eq Try.type4 rfl rfl (by simp only [zread, zreads, zread1, kindOf4, tagOf4]; rfl)
theorem zero5 : G.zero 5 = some (.int .u8 0) := zero_eq Try.type5 rfl rfl (by simp only [zread, zreads, zread1, kindOf5, tagOf5]; rfl)
theorem zero9 : G.zero 9 = some (.str { data := #[] }) := zero_eq Try.type9 rfl rfl (by simp only [zread, zreads, zread1, kindOf9, tagOf9]; rfl)
theorem zero22 : G.zero 22 = some (.lst true 3 []) := zero_eq Try.type22 rfl rfl (by simp only [zread, zreads, zread1, kindOf3, kindOf9, kindOf22, kindOf51, tagOf3, tagOf9, tagOf22]; rfl)
theorem zero23 : G.zero 23 = some (.lst true 7 []) := zero_eq Try.type23 rfl rfl (by simp only [zread, zreads, zread1, kindOf3, kindOf9, kindOf23, kindOf117, kindOf119, kindOf155, tagOf3, tagOf9, tagOf23, tagOf117]; rfl)
theorem zero24 : G.zero 24 = some (.lst true 1 []) := zero_eq Try.type24 rfl rfl (by simp only [zread, zreads, zread1, kindOf3, kindOf24, tagOf3, tagOf24]; rfl)
theorem zero26 : G.zero 26 = some (.agg [.int .i64 0, .int .i64 0, .lst true 3 [], .int .i64 0, .lst true 7 [], .lst true 1 [], .lst true 1 [], .bool false]) := zero_eq Try.type26 rfl rfl (by simp only [zread, zreads, zread1, kindOf3, kindOf4, kindOf9, kindOf22, kindOf23, kindOf24, kindOf26, kindOf51, kindOf117, kindOf119, kindOf155, tagOf3, tagOf4, tagOf9, tagOf22, tagOf23, tagOf24, tagOf117]; rfl)
theorem zero29 : G.zero 29 = some (.agg [.int .i64 0, .int .i64 0, .str { data := #[] }]) := zero_eq Try.type29 rfl rfl (by simp only [zread, zreads, zread1, kindOf3, kindOf9, kindOf29, tagOf3, tagOf9]; rfl)
theorem zero31 : G.zero 31 = some (.agg [.int .i64 0, .agg [.int .i64 0, .int .i64 0, .str { data := #[] }], .int .i64 0, .int .i64 0]) := zero_eq Try.type31 rfl rfl (by simp only [zread, zreads, zread1, kindOf3, kindOf9, kindOf29, kindOf31, tagOf3, tagOf9]; rfl)
theorem zero34 : G.zero 34 = some (.lst true 3 []) := zero_eq Try.type34 rfl rfl (by simp only [zread, zreads, zread1, kindOf3, kindOf9, kindOf29, kindOf34, tagOf3, tagOf9, tagOf34]; rfl)
theorem zero35 : G.zero 35 = some (.lst true 7 []) := zero_eq Try.type35 rfl rfl (by simp only [zread, zreads, zread1, kindOf3, kindOf9, kindOf35, kindOf68, kindOf70, kindOf115, tagOf3, tagOf9, tagOf35, tagOf68]; rfl)
theorem zero37 : G.zero 37 = some (.agg [.int .i64 0, .int .i64 0, .lst true 3 [], .int .i64 0, .lst true 7 [], .lst true 1 [], .lst true 1 [], .bool false]) := zero_eq Try.type37 rfl rfl (by simp only [zread, zreads, zread1, kindOf3, kindOf4, kindOf9, kindOf24, kindOf29, kindOf34, kindOf35, kindOf37, kindOf68, kindOf70, kindOf115, tagOf3, tagOf4, tagOf9, tagOf24, tagOf34, tagOf35, tagOf68]; rfl)
theorem zero45 : G.zero 45 = some (.lst true 6 []) := zero_eq Try.type45 rfl rfl (by simp only [zread, zreads, zread1, kindOf3, kindOf9, kindOf29, kindOf31, kindOf45, tagOf3, tagOf9, tagOf45]; rfl)
theorem zero51 : G.zero 51 = some (.agg [.int .i64 0, .int .i64 0, .str { data := #[] }]) := zero_eq Try.type51 rfl rfl (by simp only [zread, zreads, zread1, kindOf3, kindOf9, kindOf51, tagOf3, tagOf9]; rfl)
theorem zero61 : G.zero 61 = some (.lst true 1 []) := zero_eq Try.type61 rfl rfl (by simp only [zread, zreads, zread1, kindOf5, kindOf61, tagOf5, tagOf61]; rfl)
theorem zero68 : G.zero 68 = some (.lst true 3 []) := zero_eq Try.type68 rfl rfl (by simp only [zread, zreads, zread1, kindOf3, kindOf9, kindOf68, kindOf115, tagOf3, tagOf9, tagOf68]; rfl)
theorem zero70 : G.zero 70 = some (.agg [.int .i64 0, .int .i64 0, .int .i64 0, .int .i64 0, .int .i64 0, .int .i64 0, .lst true 3 []]) := zero_eq Try.type70 rfl rfl (by simp only [zread, zreads, zread1, kindOf3, kindOf9, kindOf68, kindOf70, kindOf115, tagOf3, tagOf9, tagOf68]; rfl)
theorem zero115 : G.zero 115 = some (.agg [.int .i64 0, .int .i64 0, .str { data := #[] }]) := zero_eq Try.type115 rfl rfl (by simp only [zread, zreads, zread1, kindOf3, kindOf9, kindOf115, tagOf3, tagOf9]; rfl)
theorem zero117 : G.zero 117 = some (.lst true 3 []) := zero_eq Try.type117 rfl rfl (by simp only [zread, zreads, zread1, kindOf3, kindOf9, kindOf117, kindOf155, tagOf3, tagOf9, tagOf117]; rfl)
theorem zero119 : G.zero 119 = some (.agg [.int .i64 0, .int .i64 0, .int .i64 0, .int .i64 0, .int .i64 0, .int .i64 0, .lst true 3 []]) := zero_eq Try.type119 rfl rfl (by simp only [zread, zreads, zread1, kindOf3, kindOf9, kindOf117, kindOf119, kindOf155, tagOf3, tagOf9, tagOf117]; rfl)
theorem zero131 : G.zero 131 = some (.lst true 1 []) := zero_eq Try.type131 rfl rfl (by simp only [zread, zreads, zread1, kindOf4, kindOf131, tagOf4, tagOf131]; rfl)
theorem zero135 : G.zero 135 = some (.agg [.lst true 1 [], .int .i64 0, .int .i64 0]) := zero_eq Try.type135 rfl rfl (by simp only [zread, zreads, zread1, kindOf3, kindOf5, kindOf61, kindOf135, tagOf3, tagOf5, tagOf61]; rfl)
theorem zero149 : G.zero 149 = some (.lst true 1 []) := zero_eq Try.type149 rfl rfl (by simp only [zread, zreads, zread1, kindOf3, kindOf24, kindOf149, tagOf3, tagOf24, tagOf149]; rfl)
theorem zero152 : G.zero 152 = some (.lst true 1 []) := zero_eq Try.type152 rfl rfl (by simp only [zread, zreads, zread1, kindOf9, kindOf152, tagOf9, tagOf152]; rfl)
theorem zero155 : G.zero 155 = some (.agg [.int .i64 0, .int .i64 0, .str { data := #[] }]) := zero_eq Try.type155 rfl rfl (by simp only [zread, zreads, zread1, kindOf3, kindOf9, kindOf155, tagOf3, tagOf9]; rfl)
theorem zero161 : G.zero 161 = some (.int .u32 0) := zero_eq Try.type161 rfl rfl (by simp only [zread, zreads, zread1, kindOf161, tagOf161]; rfl)
attribute [go_sem] kind3 size3 bytes3 kind4 size4 bytes4 kind5 size5 bytes5 kind9 size9 bytes9 kind22 size22 bytes22 kind23 size23 bytes23 kind24 size24 bytes24 kind26 size26 bytes26 off26_0 off26_1 off26_2 off26_3 off26_4 off26_5 off26_6 off26_7 kind29 size29 bytes29 off29_0 off29_1 off29_2 kind31 size31
attribute [go_sem] bytes31 off31_0 off31_1 off31_2 off31_3 kind34 size34 bytes34 kind35 size35 bytes35 kind37 size37 bytes37 off37_0 off37_1 off37_2 off37_3 off37_4 off37_5 off37_6 off37_7 kind45 size45 bytes45 kind51 size51 bytes51 off51_0 off51_1 off51_2 kind61 size61 bytes61 kind68 size68 bytes68 kind70 size70 bytes70
attribute [go_sem] off70_0 off70_1 off70_2 off70_3 off70_4 off70_5 off70_6 kind100 size100 bytes100 kind115 size115 bytes115 off115_0 off115_1 off115_2 kind117 size117 bytes117 kind119 size119 bytes119 off119_0 off119_1 off119_2 off119_3 off119_4 off119_5 off119_6 kind128 size128 bytes128 kind131 size131 bytes131 kind135 size135 bytes135 off135_0 off135_1
attribute [go_sem] off135_2 kind149 size149 bytes149 kind152 size152 bytes152 kind155 size155 bytes155 off155_0 off155_1 off155_2 kind161 size161 bytes161 zero3 zero4 zero5 zero9 zero22 zero23 zero24 zero26 zero29 zero31 zero34 zero35 zero37 zero45 zero51 zero61 zero68 zero70 zero115 zero117 zero119 zero131 zero135 zero149
attribute [go_sem] zero152 zero155 zero161
end Go.Proofs.Ytlgdijjkegeccaa
namespace Go.Proofs.Ytlgdijjkegeccaa
open Go Go.RowKit Go.Bv
set_option linter.unusedSimpArgs false
set_option linter.unusedVariables false
set_option maxRecDepth 4000
theorem wrap_small {n : Int} (h : -9223372036854775808 ≤ n) (h' : n ≤ 9223372036854775807) : IntKind.i64.wrap n = n := by rw [IntKind.wrap_i64]; omega

/-! Lists, piece by piece -/
section
variable {α : Type}
def sumL (w : α → Nat) (f : List α) : Nat := (f.map w).sum
theorem sumL_append (w : α → Nat) (f g : List α) : sumL w (f ++ g) = sumL w f + sumL w g := by simp [sumL]
theorem sumL_succ (w : α → Nat) {f : List α} {i : Nat} {x : α} (h : f[i]? = some x) : sumL w (f.take (i + 1)) = sumL w (f.take i) + w x := by
  rw [List.take_add_one, h, sumL_append]; simp [sumL]
theorem sumL_le (w : α → Nat) (f : List α) (i : Nat) : sumL w (f.take i) ≤ sumL w f := by
  have := sumL_append w (f.take i) (f.drop i)
  rw [List.take_append_drop] at this
  omega
theorem sumL_mem (w : α → Nat) {f : List α} {i : Nat} {x : α} (h : f[i]? = some x) : w x ≤ sumL w f := by
  have := sumL_succ w h
  have := sumL_le w f (i + 1)
  omega
theorem sumL_zero (w : α → Nat) (h : ∀ x, w x = 0) (f : List α) : sumL w f = 0 := by
  induction f with
  | nil => rfl
  | cons x f ih => simp only [sumL, List.map_cons, List.sum_cons, h] at ih ⊢; omega
theorem w_le (w : α → Nat) {f : List α} {i : Nat} {x : α} {n : Nat} (h : f[i]? = some x) (hw : f.length + sumL w f ≤ n) : w x ≤ n := by
  have := sumL_mem w h
  omega
theorem sum10 {mw w : α → Nat} (h : ∀ x, mw x ≤ 10 * (1 + w x)) (f : List α) : sumL mw f ≤ 10 * (f.length + sumL w f) := by
  induction f with
  | nil => simp [sumL]
  | cons x f ih => have := h x; simp only [sumL, List.map_cons, List.sum_cons, List.length_cons] at ih ⊢; omega
variable (me : α → Int → α) (mw : α → Nat)
/-- All marked, in their order. -/
def mkL : List α → Int → List α
  | [], _ => []
  | x :: xs, k => me x k :: mkL xs (k + (mw x : Nat))
theorem mkL_len : ∀ (f : List α) (k : Int), (mkL me mw f k).length = f.length
  | [], _ => rfl
  | x :: f, k => by simp [mkL, mkL_len f]
theorem mkL_append : ∀ (f g : List α) (k : Int), mkL me mw (f ++ g) k = mkL me mw f k ++ mkL me mw g (k + (sumL mw f : Nat))
  | [], g, k => by simp [mkL, sumL]
  | x :: f, g, k => by
    simp only [List.cons_append, mkL, mkL_append f g]
    rw [show k + ((mw x : Nat) : Int) + ((sumL mw f : Nat) : Int) = k + ((sumL mw (x :: f) : Nat) : Int) by simp only [sumL, List.map_cons, List.sum_cons]; omega]
/-- The first i are marked. -/
def mkI (f : List α) (i : Nat) (k : Int) : List α := mkL me mw (f.take i) k ++ f.drop i
theorem mkI_zero (f : List α) (k : Int) : mkI me mw f 0 k = f := by simp [mkI, mkL]
theorem mkI_len (f : List α) (i : Nat) (k : Int) : (mkI me mw f i k).length = f.length := by
  simp only [mkI, List.length_append, mkL_len, List.length_take, List.length_drop]; omega
theorem mkI_all {f : List α} {i : Nat} (h : f.length ≤ i) {k : Int} : mkI me mw f i k = mkL me mw f k := by
  rw [mkI, List.take_of_length_le h, List.drop_of_length_le h, List.append_nil]
theorem mkI_at {f : List α} {i : Nat} {x : α} (h : f[i]? = some x) {k : Int} : (mkI me mw f i k)[i]? = some x := by
  have hi := (List.getElem?_eq_some_iff.1 h).1
  have hl : (mkL me mw (f.take i) k).length = i := by rw [mkL_len, List.length_take]; omega
  unfold mkI
  rw [List.getElem?_append_right (by omega), hl, Nat.sub_self, List.getElem?_drop]
  simpa using h
theorem mkI_set {f : List α} {i : Nat} {x : α} (h : f[i]? = some x) {k : Int} : (mkI me mw f i k).set i (me x (k + (sumL mw (f.take i) : Nat))) = mkI me mw f (i + 1) k := by
  have hi := (List.getElem?_eq_some_iff.1 h).1
  have hx := (List.getElem?_eq_some_iff.1 h).2
  have hl : (mkL me mw (f.take i) k).length = i := by rw [mkL_len, List.length_take]; omega
  unfold mkI
  rw [List.set_append_right _ _ (by omega), hl, Nat.sub_self, List.take_add_one, h, Option.toList_some, mkL_append, show f.drop i = x :: f.drop (i + 1) by rw [List.drop_eq_getElem_cons hi, hx]]
  simp [mkL]
theorem mkL_at {f : List α} {i : Nat} {x : α} (h : f[i]? = some x) (k : Int) : (mkL me mw f k)[i]? = some (me x (k + (sumL mw (f.take i) : Nat))) := by
  have hi := (List.getElem?_eq_some_iff.1 h).1
  have hl : (mkL me mw (f.take i) k).length = i := by rw [mkL_len, List.length_take]; omega
  conv => lhs; rw [← List.take_append_drop i f]
  rw [mkL_append, List.getElem?_append_right (by omega), hl, Nat.sub_self, List.drop_eq_getElem_cons hi]
  simp [mkL, (List.getElem?_eq_some_iff.1 h).2]
/-- The first i are there, the others are zero. -/
def fillL (enc : α → AV) (z : AV) (f : List α) (i : Nat) : List AV := (f.take i).map enc ++ List.replicate (f.length - i) z
theorem fillL_at (enc : α → AV) (z : AV) {f : List α} {i : Nat} (h : i < f.length) : (fillL enc z f i)[i]? = some z := by
  unfold fillL
  rw [List.getElem?_append_right (by simp; omega), List.getElem?_replicate, if_pos (by simp; omega)]
theorem fillL_set (enc : α → AV) (z : AV) {f : List α} {i : Nat} {t : α} (h : f[i]? = some t) : (fillL enc z f i).set i (enc t) = fillL enc z f (i + 1) := by
  have hi := (List.getElem?_eq_some_iff.1 h).1
  have ht := (List.getElem?_eq_some_iff.1 h).2
  unfold fillL
  rw [List.set_append_right _ _ (by simp; omega)]
  rw [← List.take_append_getElem hi, ht]
  have e : f.length - i = (f.length - (i + 1)) + 1 := by omega
  have e2 : i - ((f.take i).map enc).length = 0 := by simp; omega
  rw [e2, e, List.replicate_succ]
  simp
theorem fillL_all (enc : α → AV) (z : AV) {f : List α} {i : Nat} (h : f.length ≤ i) : fillL enc z f i = f.map enc := by
  unfold fillL
  rw [List.take_of_length_le h, Nat.sub_eq_zero_of_le h]; simp
theorem take_map_len {β : Type} (f : List α) (g : α → β) : List.take f.length (f.map g) = f.map g := List.take_of_length_le (by simp)
theorem ashs_map {g h : α → AV} (H : ∀ x, ash (g x) = h x) (f : List α) : ashs (f.map g) = f.map h := by
  induction f with
  | nil => rfl
  | cons t f ih => simp only [List.map_cons, ashs, ih, H]
theorem plAs_map {g : α → AV} (H : ∀ x, plA (g x) = true) (f : List α) : plAs (f.map g) = true := by
  induction f with
  | nil => rfl
  | cons t f ih => simp only [List.map_cons, plAs, ih, H, Bool.and_self]
theorem leafAs_map {g : α → AV} (H : ∀ x, leafA (g x) = true) (f : List α) : leafAs (f.map g) = true := by
  induction f with
  | nil => rfl
  | cons t f ih => simp only [List.map_cons, leafAs, ih, H, Bool.and_self]
theorem noShs_map {g : α → AV} (H : ∀ x, noSh (g x) = true) (f : List α) : noShs (f.map g) = true := by
  induction f with
  | nil => rfl
  | cons t f ih => simp only [List.map_cons, noShs, ih, H, Bool.and_self]
theorem alen_map {g : α → AV} {n : Nat} (H : ∀ x, alen (g x) = n) (f : List α) : ((f.map g).all fun u => alen u == n) = true := by
  induction f with
  | nil => rfl
  | cons t f ih => simp only [List.map_cons, List.all_cons, ih, H, beq_self_eq_true, Bool.and_self]
end
attribute [go_sem] take_map_len
theorem plAs_set : ∀ {M : List AV} {i : Nat} {v : AV}, plAs M = true → plA v = true → plAs (M.set i v) = true
  | [], _, _, _, _ => rfl
  | x :: M, 0, v, h, hv => by simp only [plAs, Bool.and_eq_true] at h; simp [plAs, h.2, hv]
  | x :: M, i + 1, v, h, hv => by simp only [plAs, Bool.and_eq_true] at h; simp [plAs, h.1, plAs_set h.2 hv]
attribute [go_sem] plAs_set

/-- What is left of a room behind a weight; -1: it is too small. -/
def szW (w : Nat) (left : Int) : Int := if (w : Int) ≤ left then left - w else -1
theorem szW_le {w : Nat} {l n : Int} (h : l ≤ n) (hn : 0 ≤ n := by omega) : szW w l ≤ n := by unfold szW; split <;> omega
theorem szW_cases (w : Nat) (l : Int) : ((w : Int) ≤ l ∧ szW w l = l - w) ∨ (¬ (w : Int) ≤ l ∧ szW w l = -1) := by
  unfold szW; split <;> simp_all
/-! The marks -/
/-- The digits of k ahead of a text. -/
def mDig (k : Nat) (out : ByteArray) : ByteArray :=
  if h : k = 0 then out else mDig (k / 10) (⟨#[UInt8.ofNat (48 + k % 10)]⟩ ++ out)
termination_by k
decreasing_by omega
def mText (k : Int) : ByteArray := if k ≤ 0 then { data := #[109, 48] } else { data := #[109] } ++ mDig k.toNat { data := #[] }
def mBool (k : Int) : Bool := Int.tmod k 3 == 0
/-- The same text. -/
def sameS (a b : ByteArray) : Bool := a.toList == b.toList

/-! The types -/
end Go.Proofs.Ytlgdijjkegeccaa
namespace Go.Proofs.Ytlgdijjkegeccaa
open Go Go.RowKit Go.Bv
set_option linter.unusedSimpArgs false
set_option linter.unusedVariables false
set_option maxRecDepth 4000
theorem c_spec_l1In (x a b : Int) : Sound P 83 [.int .i64 x, .int .i64 a, .int .i64 b] (.bool (decide (x ≥ a) && decide (x ≤ b))) := by
  refine snd_b hT Try.func83 Try.results83 Try.ntmps83 ?_
  repeat' (first | refine one ?_ | (refine two ?_ ?_; all_goals (intro h; try simp only [Bool.not_eq_true', Bool.not_eq_false', reduceCtorEq] at h)) | fail)
  all_goals ((simp only [go_sem, *]); first | done | simp [*])
noncomputable abbrev ic_spec_l1In := Con.mk (P := P) (f := 83) Try.call83 @c_spec_l1In
attribute [instance] ic_spec_l1In
theorem c_impl_within (x a b : Int) : Sound P 86 [.int .i64 x, .int .i64 a, .int .i64 b] (.bool (decide (x ≥ a) && decide (x ≤ b))) := by
  refine snd_b hT Try.func86 Try.results86 Try.ntmps86 ?_
  repeat' (first | refine one ?_ | (refine two ?_ ?_; all_goals (intro h; try simp only [Bool.not_eq_true', Bool.not_eq_false', reduceCtorEq] at h)) | fail)
  all_goals ((simp only [go_sem, *]); first | done | simp [*])

noncomputable abbrev ic_impl_within := Con.mk (P := P) (f := 86) Try.call86 @c_impl_within
attribute [instance] ic_impl_within
/-- How many a term takes from the stack. -/
def takesI (o : Int) : Int := if o = 8 then 1 else if o = 9 ∨ o = 10 then 2 else 0
theorem c_impl_takes (o n : Int) (s : ByteArray) : Sound P 145 [.agg [.int .i64 o, .int .i64 n, .str s]] (.int .i64 (takesI o)) := by
  refine snd_b hT Try.func145 Try.results145 Try.ntmps145 ?_
  repeat' (first | refine one ?_ | (refine two ?_ ?_; all_goals (intro h; try simp only [Bool.not_eq_true', Bool.not_eq_false', reduceCtorEq] at h)) | fail)
  all_goals ((simp only [go_sem, *]); first | done | simp_all [takesI])
noncomputable abbrev ic_impl_takes := Con.mk (P := P) (f := 145) Try.call145 @c_impl_takes
attribute [instance] ic_impl_takes
end Go.Proofs.Ytlgdijjkegeccaa
namespace Go.Proofs.Ytlgdijjkegeccaa
open Go Go.RowKit Go.Bv
set_option linter.unusedSimpArgs false
set_option linter.unusedVariables false
set_option maxRecDepth 4000

def letB (b : UInt8) : Bool := !(decide ((b.toNat : Int) < 97)) && !(decide ((b.toNat : Int) > 122))
def letters (s : ByteArray) : Bool := s.data.toList.all letB
def partB (s : ByteArray) : Bool := decide ((s.size : Int) ≥ 1) && decide ((s.size : Int) ≤ 10) && letters s
theorem letters_at {s : ByteArray} {i : Nat} {b : UInt8} (h : s[i]? = some b) (hl : letters s = true) : letB b = true := by
  unfold letters at hl
  rw [List.all_eq_true] at hl
  refine hl b ?_
  have : s.data[i]? = some b := by
    rw [← h]; rfl
  exact Array.mem_toList_iff.2 (Array.mem_of_getElem? this)
theorem letters_of {s : ByteArray} (h : ∀ j b, j < s.size → s[j]? = some b → letB b = true) : letters s = true := by
  unfold letters
  rw [List.all_eq_true]
  intro b hb
  obtain ⟨j, hj, rfl⟩ := List.getElem_of_mem hb
  have hj' : j < s.size := by simpa using hj
  refine h j _ hj' ?_
  have : s[j]? = s.data[j]? := rfl
  rw [this, Array.getElem?_eq_getElem hj']
  simp
theorem byte_at {s : ByteArray} {i : Nat} (h : i < s.size) : ∃ b, s[i]? = some b := ⟨s[i], by simp [h]⟩

def Upto (s : ByteArray) (i : Nat) : Prop := ∀ j b, j < i → s[j]? = some b → letB b = true
theorem Upto.succ {s : ByteArray} {i : Nat} {b : UInt8} (h : Upto s i) (hb : s[i]? = some b) (hl : letB b = true) : Upto s (i + 1) := by
  intro j c hj hc
  by_cases e : j = i
  · subst e; rw [hb] at hc; cases hc; exact hl
  · exact h j c (by omega) hc
theorem Upto.all {s : ByteArray} {i : Nat} (h : Upto s i) (hi : s.size ≤ i) : letters s = true := letters_of fun j b hj hb => h j b (by omega) hb
theorem part_not {s : ByteArray} {i : Nat} {b : UInt8} (hb : s[i]? = some b) (hl : letB b = false) : letters s = false := by
  cases h : letters s with
  | false => rfl
  | true => rw [letters_at hb h] at hl; cases hl
theorem c_spec_l8Part (s : ByteArray) (hs : s.size < 4611686018427387904) : Sound P 155 [.str s] (.bool (partB s)) := by
  refine snd_b hT Try.func155 Try.results155 Try.ntmps155 ?_
  repeat' (first | refine one ?_ | (refine two ?_ ?_; all_goals (intro h; try simp only [Bool.not_eq_true', Bool.not_eq_false', reduceCtorEq] at h)) | fail)
  · (simp only [go_sem, *])
    first | done | simp [partB, h]
  · have h0 := h
    clear h
    refine aw_loop [1, 4, 5, 6, 7, 8, 9, 10, 11, 12, 13, 14, 15, 16, 17, 18, 19, 20, 21, 22, 23] (fun n S => ∃ i : Nat, n = s.size - i ∧ i ≤ s.size ∧ Upto s i ∧ S = [.str s, .undef, .bool false, .int .i64 i, .undef, .undef, .undef, .undef, .undef, .undef, .undef, .undef, .undef, .undef, .undef, .undef, .undef, .undef, .undef, .undef, .undef, .undef, .undef, .undef]) s.size ?_ ?_
    · refine ⟨0, by simp, by omega, fun j b hj => by omega, ?_⟩
      simp only [clr, go_sem]
      first | done | rfl
    · rintro n S ⟨i, hn, hi, hl, rfl⟩
      have hw : IntKind.i64.wrap ((i : Int) + 1) = ((i + 1 : Nat) : Int) := by rw [wrap_small] <;> omega
      by_cases hlt : i < s.size
      · have hd : decide ((i : Int) < (s.size : Int)) = true := by simp [hlt]
        obtain ⟨b, hb⟩ := byte_at hlt
        repeat' (first | refine one ?_ | (refine two ?_ ?_; all_goals (intro h; try simp only [Bool.not_eq_true', Bool.not_eq_false', reduceCtorEq] at h)) | fail)
        · (simp only [go_sem, *])
          have hp : partB s = false := by rw [partB, part_not hb (by simp [letB, *])]; simp
          rw [hp]
        · refine ⟨s.size - (i + 1), by omega, i + 1, rfl, by omega, hl.succ hb (by simp [letB, *]), ?_⟩
          simp only [clr, go_sem, hw]
        · (simp only [go_sem, *])
          have hp : partB s = false := by rw [partB, part_not hb (by simp [letB, *])]; simp
          rw [hp]
      · have hd : decide ((i : Int) < (s.size : Int)) = false := by simp; omega
        repeat' (first | refine one ?_ | (refine two ?_ ?_; all_goals (intro h; try simp only [Bool.not_eq_true', Bool.not_eq_false', reduceCtorEq] at h)) | fail)
        (simp only [go_sem, *])
        have hp : partB s = true := by rw [partB, hl.all (by omega)]; simpa using h0
        rw [hp]

noncomputable abbrev ic_spec_l8Part := Con.mk (P := P) (f := 155) Try.call155 @c_spec_l8Part
attribute [instance] ic_spec_l8Part
theorem c_impl_partOk (s : ByteArray) (hs : s.size < 4611686018427387904) : Sound P 158 [.str s] (.bool (partB s)) := by
  refine snd_b hT Try.func158 Try.results158 Try.ntmps158 ?_
  repeat' (first | refine one ?_ | (refine two ?_ ?_; all_goals (intro h; try simp only [Bool.not_eq_true', Bool.not_eq_false', reduceCtorEq] at h)) | fail)
  · refine aw_loop [1, 3, 4, 7, 8, 9, 10, 11, 12, 13, 14, 15, 16, 17, 18, 19, 20, 21, 22] (fun n S => ∃ i : Nat, n = s.size - i ∧ i ≤ s.size ∧ Upto s i ∧ S = [.str s, .undef, .bool false, .undef, .undef, .int .i64 s.size, .int .i64 i, .undef, .undef, .undef, .undef, .undef, .undef, .undef, .undef, .undef, .undef, .undef, .undef, .undef, .undef, .undef, .undef]) s.size ?_ ?_
    · refine ⟨0, by simp, by omega, fun j b hj => by omega, ?_⟩
      simp only [clr, go_sem]
      first | done | rfl
    · rintro n S ⟨i, hn, hi, hl, rfl⟩
      have hw : IntKind.i64.wrap ((i : Int) + 1) = ((i + 1 : Nat) : Int) := by rw [wrap_small] <;> omega
      by_cases hlt : i < s.size
      · have hd : decide ((i : Int) < (s.size : Int)) = true := by simp [hlt]
        obtain ⟨b, hb⟩ := byte_at hlt
        repeat' (first | refine one ?_ | (refine two ?_ ?_; all_goals (intro h; try simp only [Bool.not_eq_true', Bool.not_eq_false', reduceCtorEq] at h)) | fail)
        · (simp only [go_sem, *])
          have hp : partB s = false := by rw [partB, part_not hb (by simp [letB, *])]; simp
          rw [hp]
        · refine ⟨s.size - (i + 1), by omega, i + 1, rfl, by omega, hl.succ hb (by simp [letB, *]), ?_⟩
          simp only [clr, go_sem, hw]
        · (simp only [go_sem, *])
          have hp : partB s = false := by rw [partB, part_not hb (by simp [letB, *])]; simp
          rw [hp]
      · have hd : decide ((i : Int) < (s.size : Int)) = false := by simp; omega
        repeat' (first | refine one ?_ | (refine two ?_ ?_; all_goals (intro h; try simp only [Bool.not_eq_true', Bool.not_eq_false', reduceCtorEq] at h)) | fail)
        (simp only [go_sem, *])
        have hp : partB s = (decide ((s.size : Int) ≥ 1) && decide ((s.size : Int) ≤ 10)) := by rw [partB, hl.all (by omega)]; simp
        rw [hp]
noncomputable abbrev ic_impl_partOk := Con.mk (P := P) (f := 158) Try.call158 @c_impl_partOk
attribute [instance] ic_impl_partOk
end Go.Proofs.Ytlgdijjkegeccaa
