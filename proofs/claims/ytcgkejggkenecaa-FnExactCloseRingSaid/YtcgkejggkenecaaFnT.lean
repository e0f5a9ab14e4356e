/- The seat's types, as the plain steps want them. -/
import Derived.Test.YtcgkejggkenecaaBvM4
import Derived.Test.YtcgkejggkenecaaProg
namespace Go.Proofs.Ytcgkejggkenecaa
open Go Go.RowKit Go.Bv
set_option linter.unusedSimpArgs false
set_option linter.unusedVariables false
noncomputable abbrev P := Go.Proofs.Try.prog
theorem mixed : P.follows .mixedOrders = true := by rfl
noncomputable abbrev G : Tab := tabOf P
theorem hT : TabOk P G := tabOf_ok P mixed
theorem kind3 : G.kind 3 = .int .i64 := kind_eq Go.Proofs.Try.type3 Go.Proofs.Try.underlying3
theorem size3 : G.size 3 = 1 := by rw [size_eq Go.Proofs.Try.type3]; rfl
theorem bytes3 : G.bytes 3 = 8 := by rw [bytes_eq Go.Proofs.Try.type3]; rfl
theorem kind4 : G.kind 4 = .bool := kind_eq Go.Proofs.Try.type4 Go.Proofs.Try.underlying4
theorem size4 : G.size 4 = 1 := by rw [size_eq Go.Proofs.Try.type4]; rfl
theorem bytes4 : G.bytes 4 = 1 := by rw [bytes_eq Go.Proofs.Try.type4]; rfl
theorem kind5 : G.kind 5 = .int .u8 := kind_eq Go.Proofs.Try.type5 Go.Proofs.Try.underlying5
theorem size5 : G.size 5 = 1 := by rw [size_eq Go.Proofs.Try.type5]; rfl
theorem bytes5 : G.bytes 5 = 1 := by rw [bytes_eq Go.Proofs.Try.type5]; rfl
theorem kind9 : G.kind 9 = .str := kind_eq Go.Proofs.Try.type9 Go.Proofs.Try.underlying9
theorem size9 : G.size 9 = 1 := by rw [size_eq Go.Proofs.Try.type9]; rfl
theorem bytes9 : G.bytes 9 = 16 := by rw [bytes_eq Go.Proofs.Try.type9]; rfl
theorem kind22 : G.kind 22 = .sl 73 := kind_eq Go.Proofs.Try.type22 Go.Proofs.Try.underlying22
theorem size22 : G.size 22 = 1 := by rw [size_eq Go.Proofs.Try.type22]; rfl
theorem bytes22 : G.bytes 22 = 24 := by rw [bytes_eq Go.Proofs.Try.type22]; rfl
theorem kind23 : G.kind 23 = .sl 116 := kind_eq Go.Proofs.Try.type23 Go.Proofs.Try.underlying23
theorem size23 : G.size 23 = 1 := by rw [size_eq Go.Proofs.Try.type23]; rfl
theorem bytes23 : G.bytes 23 = 24 := by rw [bytes_eq Go.Proofs.Try.type23]; rfl
theorem kind24 : G.kind 24 = .sl 3 := kind_eq Go.Proofs.Try.type24 Go.Proofs.Try.underlying24
theorem size24 : G.size 24 = 1 := by rw [size_eq Go.Proofs.Try.type24]; rfl
theorem bytes24 : G.bytes 24 = 24 := by rw [bytes_eq Go.Proofs.Try.type24]; rfl
theorem kind26 : G.kind 26 = .st [3, 3, 22, 3, 23, 24, 24, 4] := kind_eq Go.Proofs.Try.type26 Go.Proofs.Try.underlying26
theorem size26 : G.size 26 = 8 := by rw [size_eq Go.Proofs.Try.type26]; rfl
theorem bytes26 : G.bytes 26 = 128 := by rw [bytes_eq Go.Proofs.Try.type26]; rfl
theorem off26_0 : G.off 26 0 = 0 := by rw [off_eq (f := 0) Go.Proofs.Try.underlying26 rfl]; rfl
theorem off26_1 : G.off 26 1 = 1 := by rw [off_eq (f := 1) Go.Proofs.Try.underlying26 rfl]; rfl
theorem off26_2 : G.off 26 2 = 2 := by rw [off_eq (f := 2) Go.Proofs.Try.underlying26 rfl]; rfl
theorem off26_3 : G.off 26 3 = 3 := by rw [off_eq (f := 3) Go.Proofs.Try.underlying26 rfl]; rfl
theorem off26_4 : G.off 26 4 = 4 := by rw [off_eq (f := 4) Go.Proofs.Try.underlying26 rfl]; rfl
theorem off26_5 : G.off 26 5 = 5 := by rw [off_eq (f := 5) Go.Proofs.Try.underlying26 rfl]; rfl
theorem off26_6 : G.off 26 6 = 6 := by rw [off_eq (f := 6) Go.Proofs.Try.underlying26 rfl]; rfl
theorem off26_7 : G.off 26 7 = 7 := by rw [off_eq (f := 7) Go.Proofs.Try.underlying26 rfl]; rfl
theorem kind29 : G.kind 29 = .sl 60 := kind_eq Go.Proofs.Try.type29 Go.Proofs.Try.underlying29
theorem size29 : G.size 29 = 1 := by rw [size_eq Go.Proofs.Try.type29]; rfl
theorem bytes29 : G.bytes 29 = 24 := by rw [bytes_eq Go.Proofs.Try.type29]; rfl
theorem kind30 : G.kind 30 = .sl 83 := kind_eq Go.Proofs.Try.type30 Go.Proofs.Try.underlying30
theorem size30 : G.size 30 = 1 := by rw [size_eq Go.Proofs.Try.type30]; rfl
theorem bytes30 : G.bytes 30 = 24 := by rw [bytes_eq Go.Proofs.Try.type30]; rfl
theorem kind32 : G.kind 32 = .st [3, 3, 29, 3, 30, 24, 24, 4] := kind_eq Go.Proofs.Try.type32 Go.Proofs.Try.underlying32
theorem size32 : G.size 32 = 8 := by rw [size_eq Go.Proofs.Try.type32]; rfl
theorem bytes32 : G.bytes 32 = 128 := by rw [bytes_eq Go.Proofs.Try.type32]; rfl
theorem off32_0 : G.off 32 0 = 0 := by rw [off_eq (f := 0) Go.Proofs.Try.underlying32 rfl]; rfl
theorem off32_1 : G.off 32 1 = 1 := by rw [off_eq (f := 1) Go.Proofs.Try.underlying32 rfl]; rfl
theorem off32_2 : G.off 32 2 = 2 := by rw [off_eq (f := 2) Go.Proofs.Try.underlying32 rfl]; rfl
theorem off32_3 : G.off 32 3 = 3 := by rw [off_eq (f := 3) Go.Proofs.Try.underlying32 rfl]; rfl
theorem off32_4 : G.off 32 4 = 4 := by rw [off_eq (f := 4) Go.Proofs.Try.underlying32 rfl]; rfl
theorem off32_5 : G.off 32 5 = 5 := by rw [off_eq (f := 5) Go.Proofs.Try.underlying32 rfl]; rfl
theorem off32_6 : G.off 32 6 = 6 := by rw [off_eq (f := 6) Go.Proofs.Try.underlying32 rfl]; rfl
theorem off32_7 : G.off 32 7 = 7 := by rw [off_eq (f := 7) Go.Proofs.Try.underlying32 rfl]; rfl
theorem kind46 : G.kind 46 = .sl 101 := kind_eq Go.Proofs.Try.type46 Go.Proofs.Try.underlying46
theorem size46 : G.size 46 = 1 := by rw [size_eq Go.Proofs.Try.type46]; rfl
theorem bytes46 : G.bytes 46 = 24 := by rw [bytes_eq Go.Proofs.Try.type46]; rfl
theorem kind50 : G.kind 50 = .sl 103 := kind_eq Go.Proofs.Try.type50 Go.Proofs.Try.underlying50
theorem size50 : G.size 50 = 1 := by rw [size_eq Go.Proofs.Try.type50]; rfl
theorem bytes50 : G.bytes 50 = 24 := by rw [bytes_eq Go.Proofs.Try.type50]; rfl
theorem kind60 : G.kind 60 = .st [3, 3, 9] := kind_eq Go.Proofs.Try.type60 Go.Proofs.Try.underlying60
theorem size60 : G.size 60 = 3 := by rw [size_eq Go.Proofs.Try.type60]; rfl
theorem bytes60 : G.bytes 60 = 32 := by rw [bytes_eq Go.Proofs.Try.type60]; rfl
theorem off60_0 : G.off 60 0 = 0 := by rw [off_eq (f := 0) Go.Proofs.Try.underlying60 rfl]; rfl
theorem off60_1 : G.off 60 1 = 1 := by rw [off_eq (f := 1) Go.Proofs.Try.underlying60 rfl]; rfl
theorem off60_2 : G.off 60 2 = 2 := by rw [off_eq (f := 2) Go.Proofs.Try.underlying60 rfl]; rfl
theorem kind62 : G.kind 62 = .st [3, 60, 3, 3] := kind_eq Go.Proofs.Try.type62 Go.Proofs.Try.underlying62
theorem size62 : G.size 62 = 6 := by rw [size_eq Go.Proofs.Try.type62]; rfl
theorem bytes62 : G.bytes 62 = 56 := by rw [bytes_eq Go.Proofs.Try.type62]; rfl
theorem off62_0 : G.off 62 0 = 0 := by rw [off_eq (f := 0) Go.Proofs.Try.underlying62 rfl]; rfl
theorem off62_1 : G.off 62 1 = 1 := by rw [off_eq (f := 1) Go.Proofs.Try.underlying62 rfl]; rfl
theorem off62_2 : G.off 62 2 = 4 := by rw [off_eq (f := 2) Go.Proofs.Try.underlying62 rfl]; rfl
theorem off62_3 : G.off 62 3 = 5 := by rw [off_eq (f := 3) Go.Proofs.Try.underlying62 rfl]; rfl
theorem kind68 : G.kind 68 = .sl 62 := kind_eq Go.Proofs.Try.type68 Go.Proofs.Try.underlying68
theorem size68 : G.size 68 = 1 := by rw [size_eq Go.Proofs.Try.type68]; rfl
theorem bytes68 : G.bytes 68 = 24 := by rw [bytes_eq Go.Proofs.Try.type68]; rfl
theorem kind73 : G.kind 73 = .st [3, 3, 9] := kind_eq Go.Proofs.Try.type73 Go.Proofs.Try.underlying73
theorem size73 : G.size 73 = 3 := by rw [size_eq Go.Proofs.Try.type73]; rfl
theorem bytes73 : G.bytes 73 = 32 := by rw [bytes_eq Go.Proofs.Try.type73]; rfl
theorem off73_0 : G.off 73 0 = 0 := by rw [off_eq (f := 0) Go.Proofs.Try.underlying73 rfl]; rfl
theorem off73_1 : G.off 73 1 = 1 := by rw [off_eq (f := 1) Go.Proofs.Try.underlying73 rfl]; rfl
theorem off73_2 : G.off 73 2 = 2 := by rw [off_eq (f := 2) Go.Proofs.Try.underlying73 rfl]; rfl
theorem kind83 : G.kind 83 = .st [3, 3, 3, 3, 3, 3, 50] := kind_eq Go.Proofs.Try.type83 Go.Proofs.Try.underlying83
theorem size83 : G.size 83 = 7 := by rw [size_eq Go.Proofs.Try.type83]; rfl
theorem bytes83 : G.bytes 83 = 72 := by rw [bytes_eq Go.Proofs.Try.type83]; rfl
theorem off83_0 : G.off 83 0 = 0 := by rw [off_eq (f := 0) Go.Proofs.Try.underlying83 rfl]; rfl
theorem off83_1 : G.off 83 1 = 1 := by rw [off_eq (f := 1) Go.Proofs.Try.underlying83 rfl]; rfl
theorem off83_2 : G.off 83 2 = 2 := by rw [off_eq (f := 2) Go.Proofs.Try.underlying83 rfl]; rfl
theorem off83_3 : G.off 83 3 = 3 := by rw [off_eq (f := 3) Go.Proofs.Try.underlying83 rfl]; rfl
theorem off83_4 : G.off 83 4 = 4 := by rw [off_eq (f := 4) Go.Proofs.Try.underlying83 rfl]; rfl
theorem off83_5 : G.off 83 5 = 5 := by rw [off_eq (f := 5) Go.Proofs.Try.underlying83 rfl]; rfl
theorem off83_6 : G.off 83 6 = 6 := by rw [off_eq (f := 6) Go.Proofs.Try.underlying83 rfl]; rfl
theorem kind101 : G.kind 101 = .st [3, 3, 9] := kind_eq Go.Proofs.Try.type101 Go.Proofs.Try.underlying101
theorem size101 : G.size 101 = 3 := by rw [size_eq Go.Proofs.Try.type101]; rfl
theorem bytes101 : G.bytes 101 = 32 := by rw [bytes_eq Go.Proofs.Try.type101]; rfl
theorem off101_0 : G.off 101 0 = 0 := by rw [off_eq (f := 0) Go.Proofs.Try.underlying101 rfl]; rfl
theorem off101_1 : G.off 101 1 = 1 := by rw [off_eq (f := 1) Go.Proofs.Try.underlying101 rfl]; rfl
theorem off101_2 : G.off 101 2 = 2 := by rw [off_eq (f := 2) Go.Proofs.Try.underlying101 rfl]; rfl
theorem kind103 : G.kind 103 = .st [3, 3, 9] := kind_eq Go.Proofs.Try.type103 Go.Proofs.Try.underlying103
theorem size103 : G.size 103 = 3 := by rw [size_eq Go.Proofs.Try.type103]; rfl
theorem bytes103 : G.bytes 103 = 32 := by rw [bytes_eq Go.Proofs.Try.type103]; rfl
theorem off103_0 : G.off 103 0 = 0 := by rw [off_eq (f := 0) Go.Proofs.Try.underlying103 rfl]; rfl
theorem off103_1 : G.off 103 1 = 1 := by rw [off_eq (f := 1) Go.Proofs.Try.underlying103 rfl]; rfl
theorem off103_2 : G.off 103 2 = 2 := by rw [off_eq (f := 2) Go.Proofs.Try.underlying103 rfl]; rfl
theorem kind116 : G.kind 116 = .st [3, 3, 3, 3, 3, 3, 46] := kind_eq Go.Proofs.Try.type116 Go.Proofs.Try.underlying116
theorem size116 : G.size 116 = 7 := by rw [size_eq Go.Proofs.Try.type116]; rfl
theorem bytes116 : G.bytes 116 = 72 := by rw [bytes_eq Go.Proofs.Try.type116]; rfl
theorem off116_0 : G.off 116 0 = 0 := by rw [off_eq (f := 0) Go.Proofs.Try.underlying116 rfl]; rfl
theorem off116_1 : G.off 116 1 = 1 := by rw [off_eq (f := 1) Go.Proofs.Try.underlying116 rfl]; rfl
theorem off116_2 : G.off 116 2 = 2 := by rw [off_eq (f := 2) Go.Proofs.Try.underlying116 rfl]; rfl
theorem off116_3 : G.off 116 3 = 3 := by rw [off_eq (f := 3) Go.Proofs.Try.underlying116 rfl]; rfl
theorem off116_4 : G.off 116 4 = 4 := by rw [off_eq (f := 4) Go.Proofs.Try.underlying116 rfl]; rfl
theorem off116_5 : G.off 116 5 = 5 := by rw [off_eq (f := 5) Go.Proofs.Try.underlying116 rfl]; rfl
theorem off116_6 : G.off 116 6 = 6 := by rw [off_eq (f := 6) Go.Proofs.Try.underlying116 rfl]; rfl
theorem kind128 : G.kind 128 = .sl 5 := kind_eq Go.Proofs.Try.type128 Go.Proofs.Try.underlying128
theorem size128 : G.size 128 = 1 := by rw [size_eq Go.Proofs.Try.type128]; rfl
theorem bytes128 : G.bytes 128 = 24 := by rw [bytes_eq Go.Proofs.Try.type128]; rfl
theorem kind130 : G.kind 130 = .ptr := kind_eq Go.Proofs.Try.type130 Go.Proofs.Try.underlying130
theorem size130 : G.size 130 = 1 := by rw [size_eq Go.Proofs.Try.type130]; rfl
theorem bytes130 : G.bytes 130 = 8 := by rw [bytes_eq Go.Proofs.Try.type130]; rfl
theorem kind131 : G.kind 131 = .sl 4 := kind_eq Go.Proofs.Try.type131 Go.Proofs.Try.underlying131
theorem size131 : G.size 131 = 1 := by rw [size_eq Go.Proofs.Try.type131]; rfl
theorem bytes131 : G.bytes 131 = 24 := by rw [bytes_eq Go.Proofs.Try.type131]; rfl
theorem kind133 : G.kind 133 = .sl 24 := kind_eq Go.Proofs.Try.type133 Go.Proofs.Try.underlying133
theorem size133 : G.size 133 = 1 := by rw [size_eq Go.Proofs.Try.type133]; rfl
theorem bytes133 : G.bytes 133 = 24 := by rw [bytes_eq Go.Proofs.Try.type133]; rfl
theorem kind140 : G.kind 140 = .int .u32 := kind_eq Go.Proofs.Try.type140 Go.Proofs.Try.underlying140
theorem size140 : G.size 140 = 1 := by rw [size_eq Go.Proofs.Try.type140]; rfl
theorem bytes140 : G.bytes 140 = 4 := by rw [bytes_eq Go.Proofs.Try.type140]; rfl
theorem kindOf3 : kindOf P 3 = .int .i64 := kindOf_eq Go.Proofs.Try.type3 Go.Proofs.Try.underlying3
theorem kindOf4 : kindOf P 4 = .bool := kindOf_eq Go.Proofs.Try.type4 Go.Proofs.Try.underlying4
theorem kindOf5 : kindOf P 5 = .int .u8 := kindOf_eq Go.Proofs.Try.type5 Go.Proofs.Try.underlying5
theorem kindOf9 : kindOf P 9 = .str := kindOf_eq Go.Proofs.Try.type9 Go.Proofs.Try.underlying9
theorem kindOf22 : kindOf P 22 = .sl 73 := kindOf_eq Go.Proofs.Try.type22 Go.Proofs.Try.underlying22
theorem kindOf23 : kindOf P 23 = .sl 116 := kindOf_eq Go.Proofs.Try.type23 Go.Proofs.Try.underlying23
theorem kindOf24 : kindOf P 24 = .sl 3 := kindOf_eq Go.Proofs.Try.type24 Go.Proofs.Try.underlying24
theorem kindOf26 : kindOf P 26 = .st [3, 3, 22, 3, 23, 24, 24, 4] := kindOf_eq Go.Proofs.Try.type26 Go.Proofs.Try.underlying26
theorem kindOf29 : kindOf P 29 = .sl 60 := kindOf_eq Go.Proofs.Try.type29 Go.Proofs.Try.underlying29
theorem kindOf30 : kindOf P 30 = .sl 83 := kindOf_eq Go.Proofs.Try.type30 Go.Proofs.Try.underlying30
theorem kindOf32 : kindOf P 32 = .st [3, 3, 29, 3, 30, 24, 24, 4] := kindOf_eq Go.Proofs.Try.type32 Go.Proofs.Try.underlying32
theorem kindOf46 : kindOf P 46 = .sl 101 := kindOf_eq Go.Proofs.Try.type46 Go.Proofs.Try.underlying46
theorem kindOf50 : kindOf P 50 = .sl 103 := kindOf_eq Go.Proofs.Try.type50 Go.Proofs.Try.underlying50
theorem kindOf60 : kindOf P 60 = .st [3, 3, 9] := kindOf_eq Go.Proofs.Try.type60 Go.Proofs.Try.underlying60
theorem kindOf62 : kindOf P 62 = .st [3, 60, 3, 3] := kindOf_eq Go.Proofs.Try.type62 Go.Proofs.Try.underlying62
theorem kindOf68 : kindOf P 68 = .sl 62 := kindOf_eq Go.Proofs.Try.type68 Go.Proofs.Try.underlying68
theorem kindOf73 : kindOf P 73 = .st [3, 3, 9] := kindOf_eq Go.Proofs.Try.type73 Go.Proofs.Try.underlying73
theorem kindOf83 : kindOf P 83 = .st [3, 3, 3, 3, 3, 3, 50] := kindOf_eq Go.Proofs.Try.type83 Go.Proofs.Try.underlying83
theorem kindOf101 : kindOf P 101 = .st [3, 3, 9] := kindOf_eq Go.Proofs.Try.type101 Go.Proofs.Try.underlying101
theorem kindOf103 : kindOf P 103 = .st [3, 3, 9] := kindOf_eq Go.Proofs.Try.type103 Go.Proofs.Try.underlying103
theorem kindOf116 : kindOf P 116 = .st [3, 3, 3, 3, 3, 3, 46] := kindOf_eq Go.Proofs.Try.type116 Go.Proofs.Try.underlying116
theorem kindOf128 : kindOf P 128 = .sl 5 := kindOf_eq Go.Proofs.Try.type128 Go.Proofs.Try.underlying128
theorem kindOf130 : kindOf P 130 = .ptr := kindOf_eq Go.Proofs.Try.type130 Go.Proofs.Try.underlying130
theorem kindOf131 : kindOf P 131 = .sl 4 := kindOf_eq Go.Proofs.Try.type131 Go.Proofs.Try.underlying131
theorem kindOf133 : kindOf P 133 = .sl 24 := kindOf_eq Go.Proofs.Try.type133 Go.Proofs.Try.underlying133
theorem kindOf140 : kindOf P 140 = .int .u32 := kindOf_eq Go.Proofs.Try.type140 Go.Proofs.Try.underlying140
theorem tagOf3 : tagOf P 3 = 0 := tagOf_no kindOf3 (by simp)
theorem tagOf4 : tagOf P 4 = 0 := tagOf_no kindOf4 (by simp)
theorem tagOf5 : tagOf P 5 = 0 := tagOf_no kindOf5 (by simp)
theorem tagOf9 : tagOf P 9 = 0 := tagOf_no kindOf9 (by simp)
theorem tagOf22 : tagOf P 22 = 3 := tagOf_eq kindOf22 Go.Proofs.Try.type73
theorem tagOf23 : tagOf P 23 = 7 := tagOf_eq kindOf23 Go.Proofs.Try.type116
theorem tagOf24 : tagOf P 24 = 1 := tagOf_eq kindOf24 Go.Proofs.Try.type3
theorem tagOf29 : tagOf P 29 = 3 := tagOf_eq kindOf29 Go.Proofs.Try.type60
theorem tagOf30 : tagOf P 30 = 7 := tagOf_eq kindOf30 Go.Proofs.Try.type83
theorem tagOf46 : tagOf P 46 = 3 := tagOf_eq kindOf46 Go.Proofs.Try.type101
theorem tagOf50 : tagOf P 50 = 3 := tagOf_eq kindOf50 Go.Proofs.Try.type103
theorem tagOf68 : tagOf P 68 = 6 := tagOf_eq kindOf68 Go.Proofs.Try.type62
theorem tagOf128 : tagOf P 128 = 1 := tagOf_eq kindOf128 Go.Proofs.Try.type5
theorem tagOf130 : tagOf P 130 = 0 := tagOf_no kindOf130 (by simp)
theorem tagOf131 : tagOf P 131 = 1 := tagOf_eq kindOf131 Go.Proofs.Try.type4
theorem tagOf133 : tagOf P 133 = 1 := tagOf_eq kindOf133 Go.Proofs.Try.type24
theorem tagOf140 : tagOf P 140 = 0 := tagOf_no kindOf140 (by simp)
theorem zero3 : G.zero 3 = some (.int .i64 0) := zero_eq Go.Proofs.Try.type3 rfl rfl (by simp only [zread, zreads, zread1, kindOf3, tagOf3]; rfl)
theorem zero4 : G.zero 4 = some (.bool false) := zero_eq Go.Proofs.Try.type4 rfl rfl (by simp only [zread, zreads, zread1, kindOf4, tagOf4]; rfl)
theorem zero5 : G.zero 5 = some (.int .u8 0) := zero_eq Go.Proofs.Try.type5 rfl rfl (by simp only [zread, zreads, zread1, kindOf5, tagOf5]; rfl)
theorem zero9 : G.zero 9 = some (.str { data := #[] }) := zero_eq Go.Proofs.Try.type9 rfl rfl (by simp only [zread, zreads, zread1, kindOf9, tagOf9]; rfl)
theorem zero22 : G.zero 22 = some (.lst true 3 []) := zero_eq Go.Proofs.Try.type22 rfl rfl (by simp only [zread, zreads, zread1, kindOf3, kindOf9, kindOf22, kindOf73, tagOf3, tagOf9, tagOf22]; rfl)
theorem zero23 : G.zero 23 = some (.lst true 7 []) := zero_eq Go.Proofs.Try.type23 rfl rfl (by simp only [zread, zreads, zread1, kindOf3, kindOf9, kindOf23, kindOf46, kindOf101, kindOf116, tagOf3, tagOf9, tagOf23, tagOf46]; rfl)
theorem zero24 : G.zero 24 = some (.lst true 1 []) := zero_eq Go.Proofs.Try.type24 rfl rfl (by simp only [zread, zreads, zread1, kindOf3, kindOf24, tagOf3, tagOf24]; rfl)
theorem zero26 : G.zero 26 = some (.agg [.int .i64 0, .int .i64 0, .lst true 3 [], .int .i64 0, .lst true 7 [], .lst true 1 [], .lst true 1 [], .bool false]) := zero_eq Go.Proofs.Try.type26 rfl rfl (by simp only [zread, zreads, zread1, kindOf3, kindOf4, kindOf9, kindOf22, kindOf23, kindOf24, kindOf26, kindOf46, kindOf73, kindOf101, kindOf116, tagOf3, tagOf4, tagOf9, tagOf22, tagOf23, tagOf24, tagOf46]; rfl)
theorem zero29 : G.zero 29 = some (.lst true 3 []) := zero_eq Go.Proofs.Try.type29 rfl rfl (by simp only [zread, zreads, zread1, kindOf3, kindOf9, kindOf29, kindOf60, tagOf3, tagOf9, tagOf29]; rfl)
theorem zero30 : G.zero 30 = some (.lst true 7 []) := zero_eq Go.Proofs.Try.type30 rfl rfl (by simp only [zread, zreads, zread1, kindOf3, kindOf9, kindOf30, kindOf50, kindOf83, kindOf103, tagOf3, tagOf9, tagOf30, tagOf50]; rfl)
theorem zero32 : G.zero 32 = some (.agg [.int .i64 0, .int .i64 0, .lst true 3 [], .int .i64 0, .lst true 7 [], .lst true 1 [], .lst true 1 [], .bool false]) := zero_eq Go.Proofs.Try.type32 rfl rfl (by simp only [zread, zreads, zread1, kindOf3, kindOf4, kindOf9, kindOf24, kindOf29, kindOf30, kindOf32, kindOf50, kindOf60, kindOf83, kindOf103, tagOf3, tagOf4, tagOf9, tagOf24, tagOf29, tagOf30, tagOf50]; rfl)
theorem zero46 : G.zero 46 = some (.lst true 3 []) := zero_eq Go.Proofs.Try.type46 rfl rfl (by simp only [zread, zreads, zread1, kindOf3, kindOf9, kindOf46, kindOf101, tagOf3, tagOf9, tagOf46]; rfl)
theorem zero50 : G.zero 50 = some (.lst true 3 []) := zero_eq Go.Proofs.Try.type50 rfl rfl (by simp only [zread, zreads, zread1, kindOf3, kindOf9, kindOf50, kindOf103, tagOf3, tagOf9, tagOf50]; rfl)
theorem zero60 : G.zero 60 = some (.agg [.int .i64 0, .int .i64 0, .str { data := #[] }]) := zero_eq Go.Proofs.Try.type60 rfl rfl (by simp only [zread, zreads, zread1, kindOf3, kindOf9, kindOf60, tagOf3, tagOf9]; rfl)
theorem zero62 : G.zero 62 = some (.agg [.int .i64 0, .agg [.int .i64 0, .int .i64 0, .str { data := #[] }], .int .i64 0, .int .i64 0]) := zero_eq Go.Proofs.Try.type62 rfl rfl (by simp only [zread, zreads, zread1, kindOf3, kindOf9, kindOf60, kindOf62, tagOf3, tagOf9]; rfl)
theorem zero68 : G.zero 68 = some (.lst true 6 []) := zero_eq Go.Proofs.Try.type68 rfl rfl (by simp only [zread, zreads, zread1, kindOf3, kindOf9, kindOf60, kindOf62, kindOf68, tagOf3, tagOf9, tagOf68]; rfl)
theorem zero73 : G.zero 73 = some (.agg [.int .i64 0, .int .i64 0, .str { data := #[] }]) := zero_eq Go.Proofs.Try.type73 rfl rfl (by simp only [zread, zreads, zread1, kindOf3, kindOf9, kindOf73, tagOf3, tagOf9]; rfl)
theorem zero83 : G.zero 83 = some (.agg [.int .i64 0, .int .i64 0, .int .i64 0, .int .i64 0, .int .i64 0, .int .i64 0, .lst true 3 []]) := zero_eq Go.Proofs.Try.type83 rfl rfl (by simp only [zread, zreads, zread1, kindOf3, kindOf9, kindOf50, kindOf83, kindOf103, tagOf3, tagOf9, tagOf50]; rfl)
theorem zero101 : G.zero 101 = some (.agg [.int .i64 0, .int .i64 0, .str { data := #[] }]) := zero_eq Go.Proofs.Try.type101 rfl rfl (by simp only [zread, zreads, zread1, kindOf3, kindOf9, kindOf101, tagOf3, tagOf9]; rfl)
theorem zero103 : G.zero 103 = some (.agg [.int .i64 0, .int .i64 0, .str { data := #[] }]) := zero_eq Go.Proofs.Try.type103 rfl rfl (by simp only [zread, zreads, zread1, kindOf3, kindOf9, kindOf103, tagOf3, tagOf9]; rfl)
theorem zero116 : G.zero 116 = some (.agg [.int .i64 0, .int .i64 0, .int .i64 0, .int .i64 0, .int .i64 0, .int .i64 0, .lst true 3 []]) := zero_eq Go.Proofs.Try.type116 rfl rfl (by simp only [zread, zreads, zread1, kindOf3, kindOf9, kindOf46, kindOf101, kindOf116, tagOf3, tagOf9, tagOf46]; rfl)
theorem zero128 : G.zero 128 = some (.lst true 1 []) := zero_eq Go.Proofs.Try.type128 rfl rfl (by simp only [zread, zreads, zread1, kindOf5, kindOf128, tagOf5, tagOf128]; rfl)
theorem zero131 : G.zero 131 = some (.lst true 1 []) := zero_eq Go.Proofs.Try.type131 rfl rfl (by simp only [zread, zreads, zread1, kindOf4, kindOf131, tagOf4, tagOf131]; rfl)
theorem zero133 : G.zero 133 = some (.lst true 1 []) := zero_eq Go.Proofs.Try.type133 rfl rfl (by simp only [zread, zreads, zread1, kindOf3, kindOf24, kindOf133, tagOf3, tagOf24, tagOf133]; rfl)
theorem zero140 : G.zero 140 = some (.int .u32 0) := zero_eq Go.Proofs.Try.type140 rfl rfl (by simp only [zread, zreads, zread1, kindOf140, tagOf140]; rfl)
attribute [go_sem] kind3 size3 bytes3 kind4 size4 bytes4 kind5 size5 bytes5 kind9 size9 bytes9 kind22 size22 bytes22 kind23 size23 bytes23 kind24 size24 bytes24 kind26 size26 bytes26 off26_0 off26_1 off26_2 off26_3 off26_4 off26_5 off26_6 off26_7 kind29 size29 bytes29 kind30 size30 bytes30 kind32 size32
attribute [go_sem] bytes32 off32_0 off32_1 off32_2 off32_3 off32_4 off32_5 off32_6 off32_7 kind46 size46 bytes46 kind50 size50 bytes50 kind60 size60 bytes60 off60_0 off60_1 off60_2 kind62 size62 bytes62 off62_0 off62_1 off62_2 off62_3 kind68 size68 bytes68 kind73 size73 bytes73 off73_0 off73_1 off73_2 kind83 size83 bytes83
attribute [go_sem] off83_0 off83_1 off83_2 off83_3 off83_4 off83_5 off83_6 kind101 size101 bytes101 off101_0 off101_1 off101_2 kind103 size103 bytes103 off103_0 off103_1 off103_2 kind116 size116 bytes116 off116_0 off116_1 off116_2 off116_3 off116_4 off116_5 off116_6 kind128 size128 bytes128 kind130 size130 bytes130 kind131 size131 bytes131 kind133 size133
attribute [go_sem] bytes133 kind140 size140 bytes140 zero3 zero4 zero5 zero9 zero22 zero23 zero24 zero26 zero29 zero30 zero32 zero46 zero50 zero60 zero62 zero68 zero73 zero83 zero101 zero103 zero116 zero128 zero131 zero133 zero140
end Go.Proofs.Ytcgkejggkenecaa
