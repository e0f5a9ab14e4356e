/- The seat's types, as the plain steps want them. The values of the law's types: how they are laid out, what they weigh, how they are marked. Contracts: small functions of the filter. Contracts: parts of names, terms. -/
import Derived.Test.YtlgdijjkegeccaaGreatBvM5
import Derived.Test.YtlgdijjkegeccaaGreatProg
namespace Go.Proofs.YtlgdijjkegeccaaGreat
open Go Go.RowKit Go.Bv
set_option linter.unusedSimpArgs false
set_option linter.unusedVariables false
set_option maxRecDepth 4000
noncomputable abbrev P := Tryz.prog
theorem mixed : P.follows .mixedOrders = true := by rfl
noncomputable abbrev G : Tab := tabOf P
theorem hT : TabOk P G := tabOf_ok P mixed
theorem kind3 : G.kind 3 = .int .i64 := kind_eq Tryz.type3 Tryz.underlying3
theorem size3 : G.size 3 = 1 := by rw [size_eq Tryz.type3]; rfl
theorem bytes3 : G.bytes 3 = 8 := by rw [bytes_eq Tryz.type3]; rfl
theorem kind4 : G.kind 4 = .bool := kind_eq Tryz.type4 Tryz.underlying4
theorem size4 : G.size 4 = 1 := by rw [size_eq Tryz.type4]; rfl
theorem bytes4 : G.bytes 4 = 1 := by rw [bytes_eq Tryz.type4]; rfl
theorem kind5 : G.kind 5 = .int .u8 := kind_eq Tryz.type5 Tryz.underlying5
theorem size5 : G.size 5 = 1 := by rw [size_eq Tryz.type5]; rfl
theorem bytes5 : G.bytes 5 = 1 := by rw [bytes_eq Tryz.type5]; rfl
theorem kind9 : G.kind 9 = .str := kind_eq Tryz.type9 Tryz.underlying9
theorem size9 : G.size 9 = 1 := by rw [size_eq Tryz.type9]; rfl
theorem bytes9 : G.bytes 9 = 16 := by rw [bytes_eq Tryz.type9]; rfl
theorem kind22 : G.kind 22 = .sl 62 := kind_eq Tryz.type22 Tryz.underlying22
theorem size22 : G.size 22 = 1 := by rw [size_eq Tryz.type22]; rfl
theorem bytes22 : G.bytes 22 = 24 := by rw [bytes_eq Tryz.type22]; rfl
theorem kind23 : G.kind 23 = .sl 66 := kind_eq Tryz.type23 Tryz.underlying23
theorem size23 : G.size 23 = 1 := by rw [size_eq Tryz.type23]; rfl
theorem bytes23 : G.bytes 23 = 24 := by rw [bytes_eq Tryz.type23]; rfl
theorem kind24 : G.kind 24 = .sl 3 := kind_eq Tryz.type24 Tryz.underlying24
theorem size24 : G.size 24 = 1 := by rw [size_eq Tryz.type24]; rfl
theorem bytes24 : G.bytes 24 = 24 := by rw [bytes_eq Tryz.type24]; rfl
theorem kind26 : G.kind 26 = .st [3, 3, 22, 3, 23, 24, 24, 4] := kind_eq Tryz.type26 Tryz.underlying26
theorem size26 : G.size 26 = 8 := by rw [size_eq Tryz.type26]; rfl
theorem bytes26 : G.bytes 26 = 128 := by rw [bytes_eq Tryz.type26]; rfl
theorem off26_0 : G.off 26 0 = 0 := by rw [off_eq (f := 0) Tryz.underlying26 rfl]; rfl
theorem off26_1 : G.off 26 1 = 1 := by rw [off_eq (f := 1) Tryz.underlying26 rfl]; rfl
theorem off26_2 : G.off 26 2 = 2 := by rw [off_eq (f := 2) Tryz.underlying26 rfl]; rfl
theorem off26_3 : G.off 26 3 = 3 := by rw [off_eq (f := 3) Tryz.underlying26 rfl]; rfl
theorem off26_4 : G.off 26 4 = 4 := by rw [off_eq (f := 4) Tryz.underlying26 rfl]; rfl
theorem off26_5 : G.off 26 5 = 5 := by rw [off_eq (f := 5) Tryz.underlying26 rfl]; rfl
theorem off26_6 : G.off 26 6 = 6 := by rw [off_eq (f := 6) Tryz.underlying26 rfl]; rfl
theorem off26_7 : G.off 26 7 = 7 := by rw [off_eq (f := 7) Tryz.underlying26 rfl]; rfl
theorem kind28 : G.kind 28 = .sl 33 := kind_eq Tryz.type28 Tryz.underlying28
theorem size28 : G.size 28 = 1 := by rw [size_eq Tryz.type28]; rfl
theorem bytes28 : G.bytes 28 = 24 := by rw [bytes_eq Tryz.type28]; rfl
theorem kind29 : G.kind 29 = .sl 69 := kind_eq Tryz.type29 Tryz.underlying29
theorem size29 : G.size 29 = 1 := by rw [size_eq Tryz.type29]; rfl
theorem bytes29 : G.bytes 29 = 24 := by rw [bytes_eq Tryz.type29]; rfl
theorem kind31 : G.kind 31 = .st [3, 3, 28, 3, 29, 24, 24, 4] := kind_eq Tryz.type31 Tryz.underlying31
theorem size31 : G.size 31 = 8 := by rw [size_eq Tryz.type31]; rfl
theorem bytes31 : G.bytes 31 = 128 := by rw [bytes_eq Tryz.type31]; rfl
theorem off31_0 : G.off 31 0 = 0 := by rw [off_eq (f := 0) Tryz.underlying31 rfl]; rfl
theorem off31_1 : G.off 31 1 = 1 := by rw [off_eq (f := 1) Tryz.underlying31 rfl]; rfl
theorem off31_2 : G.off 31 2 = 2 := by rw [off_eq (f := 2) Tryz.underlying31 rfl]; rfl
theorem off31_3 : G.off 31 3 = 3 := by rw [off_eq (f := 3) Tryz.underlying31 rfl]; rfl
theorem off31_4 : G.off 31 4 = 4 := by rw [off_eq (f := 4) Tryz.underlying31 rfl]; rfl
theorem off31_5 : G.off 31 5 = 5 := by rw [off_eq (f := 5) Tryz.underlying31 rfl]; rfl
theorem off31_6 : G.off 31 6 = 6 := by rw [off_eq (f := 6) Tryz.underlying31 rfl]; rfl
theorem off31_7 : G.off 31 7 = 7 := by rw [off_eq (f := 7) Tryz.underlying31 rfl]; rfl
theorem kind33 : G.kind 33 = .st [3, 3, 9] := kind_eq Tryz.type33 Tryz.underlying33
theorem size33 : G.size 33 = 3 := by rw [size_eq Tryz.type33]; rfl
theorem bytes33 : G.bytes 33 = 32 := by rw [bytes_eq Tryz.type33]; rfl
theorem off33_0 : G.off 33 0 = 0 := by rw [off_eq (f := 0) Tryz.underlying33 rfl]; rfl
theorem off33_1 : G.off 33 1 = 1 := by rw [off_eq (f := 1) Tryz.underlying33 rfl]; rfl
theorem off33_2 : G.off 33 2 = 2 := by rw [off_eq (f := 2) Tryz.underlying33 rfl]; rfl
theorem kind35 : G.kind 35 = .st [3, 33, 3, 3] := kind_eq Tryz.type35 Tryz.underlying35
theorem size35 : G.size 35 = 6 := by rw [size_eq Tryz.type35]; rfl
theorem bytes35 : G.bytes 35 = 56 := by rw [bytes_eq Tryz.type35]; rfl
theorem off35_0 : G.off 35 0 = 0 := by rw [off_eq (f := 0) Tryz.underlying35 rfl]; rfl
theorem off35_1 : G.off 35 1 = 1 := by rw [off_eq (f := 1) Tryz.underlying35 rfl]; rfl
theorem off35_2 : G.off 35 2 = 4 := by rw [off_eq (f := 2) Tryz.underlying35 rfl]; rfl
theorem off35_3 : G.off 35 3 = 5 := by rw [off_eq (f := 3) Tryz.underlying35 rfl]; rfl
theorem kind62 : G.kind 62 = .st [3, 3, 9] := kind_eq Tryz.type62 Tryz.underlying62
theorem size62 : G.size 62 = 3 := by rw [size_eq Tryz.type62]; rfl
theorem bytes62 : G.bytes 62 = 32 := by rw [bytes_eq Tryz.type62]; rfl
theorem off62_0 : G.off 62 0 = 0 := by rw [off_eq (f := 0) Tryz.underlying62 rfl]; rfl
theorem off62_1 : G.off 62 1 = 1 := by rw [off_eq (f := 1) Tryz.underlying62 rfl]; rfl
theorem off62_2 : G.off 62 2 = 2 := by rw [off_eq (f := 2) Tryz.underlying62 rfl]; rfl
theorem kind64 : G.kind 64 = .sl 100 := kind_eq Tryz.type64 Tryz.underlying64
theorem size64 : G.size 64 = 1 := by rw [size_eq Tryz.type64]; rfl
theorem bytes64 : G.bytes 64 = 24 := by rw [bytes_eq Tryz.type64]; rfl
theorem kind66 : G.kind 66 = .st [3, 3, 3, 3, 3, 3, 64] := kind_eq Tryz.type66 Tryz.underlying66
theorem size66 : G.size 66 = 7 := by rw [size_eq Tryz.type66]; rfl
theorem bytes66 : G.bytes 66 = 72 := by rw [bytes_eq Tryz.type66]; rfl
theorem off66_0 : G.off 66 0 = 0 := by rw [off_eq (f := 0) Tryz.underlying66 rfl]; rfl
theorem off66_1 : G.off 66 1 = 1 := by rw [off_eq (f := 1) Tryz.underlying66 rfl]; rfl
theorem off66_2 : G.off 66 2 = 2 := by rw [off_eq (f := 2) Tryz.underlying66 rfl]; rfl
theorem off66_3 : G.off 66 3 = 3 := by rw [off_eq (f := 3) Tryz.underlying66 rfl]; rfl
theorem off66_4 : G.off 66 4 = 4 := by rw [off_eq (f := 4) Tryz.underlying66 rfl]; rfl
theorem off66_5 : G.off 66 5 = 5 := by rw [off_eq (f := 5) Tryz.underlying66 rfl]; rfl
theorem off66_6 : G.off 66 6 = 6 := by rw [off_eq (f := 6) Tryz.underlying66 rfl]; rfl
theorem kind67 : G.kind 67 = .sl 80 := kind_eq Tryz.type67 Tryz.underlying67
theorem size67 : G.size 67 = 1 := by rw [size_eq Tryz.type67]; rfl
theorem bytes67 : G.bytes 67 = 24 := by rw [bytes_eq Tryz.type67]; rfl
theorem kind69 : G.kind 69 = .st [3, 3, 3, 3, 3, 3, 67] := kind_eq Tryz.type69 Tryz.underlying69
theorem size69 : G.size 69 = 7 := by rw [size_eq Tryz.type69]; rfl
theorem bytes69 : G.bytes 69 = 72 := by rw [bytes_eq Tryz.type69]; rfl
theorem off69_0 : G.off 69 0 = 0 := by rw [off_eq (f := 0) Tryz.underlying69 rfl]; rfl
theorem off69_1 : G.off 69 1 = 1 := by rw [off_eq (f := 1) Tryz.underlying69 rfl]; rfl
theorem off69_2 : G.off 69 2 = 2 := by rw [off_eq (f := 2) Tryz.underlying69 rfl]; rfl
theorem off69_3 : G.off 69 3 = 3 := by rw [off_eq (f := 3) Tryz.underlying69 rfl]; rfl
theorem off69_4 : G.off 69 4 = 4 := by rw [off_eq (f := 4) Tryz.underlying69 rfl]; rfl
theorem off69_5 : G.off 69 5 = 5 := by rw [off_eq (f := 5) Tryz.underlying69 rfl]; rfl
theorem off69_6 : G.off 69 6 = 6 := by rw [off_eq (f := 6) Tryz.underlying69 rfl]; rfl
theorem kind80 : G.kind 80 = .st [3, 3, 9] := kind_eq Tryz.type80 Tryz.underlying80
theorem size80 : G.size 80 = 3 := by rw [size_eq Tryz.type80]; rfl
theorem bytes80 : G.bytes 80 = 32 := by rw [bytes_eq Tryz.type80]; rfl
theorem off80_0 : G.off 80 0 = 0 := by rw [off_eq (f := 0) Tryz.underlying80 rfl]; rfl
theorem off80_1 : G.off 80 1 = 1 := by rw [off_eq (f := 1) Tryz.underlying80 rfl]; rfl
theorem off80_2 : G.off 80 2 = 2 := by rw [off_eq (f := 2) Tryz.underlying80 rfl]; rfl
theorem kind84 : G.kind 84 = .ptr := kind_eq Tryz.type84 Tryz.underlying84
theorem size84 : G.size 84 = 1 := by rw [size_eq Tryz.type84]; rfl
theorem bytes84 : G.bytes 84 = 8 := by rw [bytes_eq Tryz.type84]; rfl
theorem kind98 : G.kind 98 = .sl 5 := kind_eq Tryz.type98 Tryz.underlying98
theorem size98 : G.size 98 = 1 := by rw [size_eq Tryz.type98]; rfl
theorem bytes98 : G.bytes 98 = 24 := by rw [bytes_eq Tryz.type98]; rfl
theorem kind100 : G.kind 100 = .st [3, 3, 9] := kind_eq Tryz.type100 Tryz.underlying100
theorem size100 : G.size 100 = 3 := by rw [size_eq Tryz.type100]; rfl
theorem bytes100 : G.bytes 100 = 32 := by rw [bytes_eq Tryz.type100]; rfl
theorem off100_0 : G.off 100 0 = 0 := by rw [off_eq (f := 0) Tryz.underlying100 rfl]; rfl
theorem off100_1 : G.off 100 1 = 1 := by rw [off_eq (f := 1) Tryz.underlying100 rfl]; rfl
theorem off100_2 : G.off 100 2 = 2 := by rw [off_eq (f := 2) Tryz.underlying100 rfl]; rfl
theorem kind102 : G.kind 102 = .sl 4 := kind_eq Tryz.type102 Tryz.underlying102
theorem size102 : G.size 102 = 1 := by rw [size_eq Tryz.type102]; rfl
theorem bytes102 : G.bytes 102 = 24 := by rw [bytes_eq Tryz.type102]; rfl
theorem kind106 : G.kind 106 = .sl 24 := kind_eq Tryz.type106 Tryz.underlying106
theorem size106 : G.size 106 = 1 := by rw [size_eq Tryz.type106]; rfl
theorem bytes106 : G.bytes 106 = 24 := by rw [bytes_eq Tryz.type106]; rfl
theorem kind115 : G.kind 115 = .int .u32 := kind_eq Tryz.type115 Tryz.underlying115
theorem size115 : G.size 115 = 1 := by rw [size_eq Tryz.type115]; rfl
theorem bytes115 : G.bytes 115 = 4 := by rw [bytes_eq Tryz.type115]; rfl
theorem kindOf3 : kindOf P 3 = .int .i64 := kindOf_eq Tryz.type3 Tryz.underlying3
theorem kindOf4 : kindOf P 4 = .bool := kindOf_eq Tryz.type4 Tryz.underlying4
theorem kindOf5 : kindOf P 5 = .int .u8 := kindOf_eq Tryz.type5 Tryz.underlying5
theorem kindOf9 : kindOf P 9 = .str := kindOf_eq Tryz.type9 Tryz.underlying9
theorem kindOf22 : kindOf P 22 = .sl 62 := kindOf_eq Tryz.type22 Tryz.underlying22
theorem kindOf23 : kindOf P 23 = .sl 66 := kindOf_eq Tryz.type23 Tryz.underlying23
theorem kindOf24 : kindOf P 24 = .sl 3 := kindOf_eq Tryz.type24 Tryz.underlying24
theorem kindOf26 : kindOf P 26 = .st [3, 3, 22, 3, 23, 24, 24, 4] := kindOf_eq Tryz.type26 Tryz.underlying26
theorem kindOf28 : kindOf P 28 = .sl 33 := kindOf_eq Tryz.type28 Tryz.underlying28
theorem kindOf29 : kindOf P 29 = .sl 69 := kindOf_eq Tryz.type29 Tryz.underlying29
theorem kindOf31 : kindOf P 31 = .st [3, 3, 28, 3, 29, 24, 24, 4] := kindOf_eq Tryz.type31 Tryz.underlying31
theorem kindOf33 : kindOf P 33 = .st [3, 3, 9] := kindOf_eq Tryz.type33 Tryz.underlying33
theorem kindOf35 : kindOf P 35 = .st [3, 33, 3, 3] := kindOf_eq Tryz.type35 Tryz.underlying35
theorem kindOf62 : kindOf P 62 = .st [3, 3, 9] := kindOf_eq Tryz.type62 Tryz.underlying62
theorem kindOf64 : kindOf P 64 = .sl 100 := kindOf_eq Tryz.type64 Tryz.underlying64
theorem kindOf66 : kindOf P 66 = .st [3, 3, 3, 3, 3, 3, 64] := kindOf_eq Tryz.type66 Tryz.underlying66
theorem kindOf67 : kindOf P 67 = .sl 80 := kindOf_eq Tryz.type67 Tryz.underlying67
theorem kindOf69 : kindOf P 69 = .st [3, 3, 3, 3, 3, 3, 67] := kindOf_eq Tryz.type69 Tryz.underlying69
theorem kindOf80 : kindOf P 80 = .st [3, 3, 9] := kindOf_eq Tryz.type80 Tryz.underlying80
theorem kindOf84 : kindOf P 84 = .ptr := kindOf_eq Tryz.type84 Tryz.underlying84
theorem kindOf98 : kindOf P 98 = .sl 5 := kindOf_eq Tryz.type98 Tryz.underlying98
theorem kindOf100 : kindOf P 100 = .st [3, 3, 9] := kindOf_eq Tryz.type100 Tryz.underlying100
theorem kindOf102 : kindOf P 102 = .sl 4 := kindOf_eq Tryz.type102 Tryz.underlying102
theorem kindOf106 : kindOf P 106 = .sl 24 := kindOf_eq Tryz.type106 Tryz.underlying106
theorem kindOf115 : kindOf P 115 = .int .u32 := kindOf_eq Tryz.type115 Tryz.underlying115
theorem tagOf3 : tagOf P 3 = 0 := tagOf_no kindOf3 (by simp)
theorem tagOf4 : tagOf P 4 = 0 := tagOf_no kindOf4 (by simp)
theorem tagOf5 : tagOf P 5 = 0 := tagOf_no kindOf5 (by simp)
theorem tagOf9 : tagOf P 9 = 0 := tagOf_no kindOf9 (by simp)
theorem tagOf22 : tagOf P 22 = 3 := tagOf_eq kindOf22 Tryz.type62
theorem tagOf23 : tagOf P 23 = 7 := tagOf_eq kindOf23 Tryz.type66
theorem tagOf24 : tagOf P 24 = 1 := tagOf_eq kindOf24 Tryz.type3
theorem tagOf28 : tagOf P 28 = 3 := tagOf_eq kindOf28 Tryz.type33
theorem tagOf29 : tagOf P 29 = 7 := tagOf_eq kindOf29 Tryz.type69
theorem tagOf64 : tagOf P 64 = 3 := tagOf_eq kindOf64 Tryz.type100
theorem tagOf67 : tagOf P 67 = 3 := tagOf_eq kindOf67 Tryz.type80
theorem tagOf84 : tagOf P 84 = 0 := tagOf_no kindOf84 (by simp)
theorem tagOf98 : tagOf P 98 = 1 := tagOf_eq kindOf98 Tryz.type5
theorem tagOf102 : tagOf P 102 = 1 := tagOf_eq kindOf102 Tryz.type4
theorem tagOf106 : tagOf P 106 = 1 := tagOf_eq kindOf106 Tryz.type24
theorem tagOf115 : tagOf P 115 = 0 := tagOf_no kindOf115 (by simp)
theorem zero3 : G.zero 3 = some (.int .i64 0) := zero_eq Tryz.type3 rfl rfl (by simp only [zread, zreads, zread1, kindOf3, tagOf3]; rfl)
theorem zero4 : G.zero 4 = some (.bool false) := zero_eq Tryz.type4 rfl rfl (by simp only [zread, zreads, zread1, kindOf4, tagOf4]; rfl)
theorem zero5 : G.zero 5 = some (.int .u8 0) := zero_eq Tryz.type5 rfl rfl (by simp only [zread, zreads, zread1, kindOf5, tagOf5]; rfl)
theorem zero9 : G.zero 9 = some (.str { data := #[] }) := zero_eq Tryz.type9 rfl rfl (by simp only [zread, zreads, zread1, kindOf9, tagOf9]; rfl)
theorem zero22 : G.zero 22 = some (.lst true 3 []) := zero_eq Tryz.type22 rfl rfl (by simp only [zread, zreads, zread1, kindOf3, kindOf9, kindOf22, kindOf62, tagOf3, tagOf9, tagOf22]; rfl)
theorem zero23 : G.zero 23 = some (.lst true 7 []) := zero_eq Tryz.type23 rfl rfl (by simp only [zread, zreads, zread1, kindOf3, kindOf9, kindOf23, kindOf64, kindOf66, kindOf100, tagOf3, tagOf9, tagOf23, tagOf64]; rfl)
theorem zero24 : G.zero 24 = some (.lst true 1 []) := zero_eq Tryz.type24 rfl rfl (by simp only [zread, zreads, zread1, kindOf3, kindOf24, tagOf3, tagOf24]; rfl)
theorem zero26 : G.zero 26 = some (.agg [.int .i64 0, .int .i64 0, .lst true 3 [], .int .i64 0, .lst true 7 [], .lst true 1 [], .lst true 1 [], .bool false]) := zero_eq Tryz.type26 rfl rfl (by simp only [zread, zreads, zread1, kindOf3, kindOf4, kindOf9, kindOf22, kindOf23, kindOf24, kindOf26, kindOf62, kindOf64, kindOf66, kindOf100, tagOf3, tagOf4, tagOf9, tagOf22, tagOf23, tagOf24, tagOf64]; rfl)
theorem zero28 : G.zero 28 = some (.lst true 3 []) := zero_eq Tryz.type28 rfl rfl (by simp only [zread, zreads, zread1, kindOf3, kindOf9, kindOf28, kindOf33, tagOf3, tagOf9, tagOf28]; rfl)
theorem zero29 : G.zero 29 = some (.lst true 7 []) := zero_eq Tryz.type29 rfl rfl (by simp only [zread, zreads, zread1, kindOf3, kindOf9, kindOf29, kindOf67, kindOf69, kindOf80, tagOf3, tagOf9, tagOf29, tagOf67]; rfl)
theorem zero31 : G.zero 31 = some (.agg [.int .i64 0, .int .i64 0, .lst true 3 [], .int .i64 0, .lst true 7 [], .lst true 1 [], .lst true 1 [], .bool false]) := zero_eq Tryz.type31 rfl rfl (by simp only [zread, zreads, zread1, kindOf3, kindOf4, kindOf9, kindOf24, kindOf28, kindOf29, kindOf31, kindOf33, kindOf67, kindOf69, kindOf80, tagOf3, tagOf4, tagOf9, tagOf24, tagOf28, tagOf29, tagOf67]; rfl)
theorem zero33 : G.zero 33 = some (.agg [.int .i64 0, .int .i64 0, .str { data := #[] }]) := zero_eq Tryz.type33 rfl rfl (by simp only [zread, zreads, zread1, kindOf3, kindOf9, kindOf33, tagOf3, tagOf9]; rfl)
theorem zero35 : G.zero 35 = some (.agg [.int .i64 0, .agg [.int .i64 0, .int .i64 0, .str { data := #[] }], .int .i64 0, .int .i64 0]) := zero_eq Tryz.type35 rfl rfl (by simp only [zread, zreads, zread1, kindOf3, kindOf9, kindOf33, kindOf35, tagOf3, tagOf9]; rfl)
theorem zero62 : G.zero 62 = some (.agg [.int .i64 0, .int .i64 0, .str { data := #[] }]) := zero_eq Tryz.type62 rfl rfl (by simp only [zread, zreads, zread1, kindOf3, kindOf9, kindOf62, tagOf3, tagOf9]; rfl)
theorem zero64 : G.zero 64 = some (.lst true 3 []) := zero_eq Tryz.type64 rfl rfl (by simp only [zread, zreads, zread1, kindOf3, kindOf9, kindOf64, kindOf100, tagOf3, tagOf9, tagOf64]; rfl)
theorem zero66 : G.zero 66 = some (.agg [.int .i64 0, .int .i64 0, .int .i64 0, .int .i64 0, .int .i64 0, .int .i64 0, .lst true 3 []]) := zero_eq Tryz.type66 rfl rfl (by simp only [zread, zreads, zread1, kindOf3, kindOf9, kindOf64, kindOf66, kindOf100, tagOf3, tagOf9, tagOf64]; rfl)
theorem zero67 : G.zero 67 = some (.lst true 3 []) := zero_eq Tryz.type67 rfl rfl (by simp only [zread, zreads, zread1, kindOf3, kindOf9, kindOf67, kindOf80, tagOf3, tagOf9, tagOf67]; rfl)
theorem zero69 : G.zero 69 = some (.agg [.int .i64 0, .int .i64 0, .int .i64 0, .int .i64 0, .int .i64 0, .int .i64 0, .lst true 3 []]) := zero_eq Tryz.type69 rfl rfl (by simp only [zread, zreads, zread1, kindOf3, kindOf9, kindOf67, kindOf69, kindOf80, tagOf3, tagOf9, tagOf67]; rfl)
theorem zero80 : G.zero 80 = some (.agg [.int .i64 0, .int .i64 0, .str { data := #[] }]) := zero_eq Tryz.type80 rfl rfl (by simp only [zread, zreads, zread1, kindOf3, kindOf9, kindOf80, tagOf3, tagOf9]; rfl)
theorem zero98 : G.zero 98 = some (.lst true 1 []) := zero_eq Tryz.type98 rfl rfl (by simp only [zread, zreads, zread1, kindOf5, kindOf98, tagOf5, tagOf98]; rfl)
theorem zero100 : G.zero 100 = some (.agg [.int .i64 0, .int .i64 0, .str { data := #[] }]) := zero_eq Tryz.type100 rfl rfl (by simp only [zread, zreads, zread1, kindOf3, kindOf9, kindOf100, tagOf3, tagOf9]; rfl)
theorem zero102 : G.zero 102 = some (.lst true 1 []) := zero_eq Tryz.type102 rfl rfl (by simp only [zread, zreads, zread1, kindOf4, kindOf102, tagOf4, tagOf102]; rfl)
theorem zero106 : G.zero 106 = some (.lst true 1 []) := zero_eq Tryz.type106 rfl rfl (by simp only [zread, zreads, zread1, kindOf3, kindOf24, kindOf106, tagOf3, tagOf24, tagOf106]; rfl)
theorem zero115 : G.zero 115 = some (.int .u32 0) := zero_eq Tryz.type115 rfl rfl (by simp only [zread, zreads, zread1, kindOf115, tagOf115]; rfl)
attribute [go_sem] kind3 size3 bytes3 kind4 size4 bytes4 kind5 size5 bytes5 kind9 size9 bytes9 kind22 size22 bytes22 kind23 size23 bytes23 kind24 size24 bytes24 kind26 size26 bytes26 off26_0 off26_1 off26_2 off26_3 off26_4 off26_5 off26_6 off26_7 kind28 size28 bytes28 kind29 size29 bytes29 kind31 size31
attribute [go_sem] bytes31 off31_0 off31_1 off31_2 off31_3 off31_4 off31_5 off31_6 off31_7 kind33 size33 bytes33 off33_0 off33_1 off33_2 kind35 size35 bytes35 off35_0 off35_1 off35_2 off35_3 kind62 size62 bytes62 off62_0 off62_1 off62_2 kind64 size64 bytes64 kind66 size66 bytes66 off66_0 off66_1 off66_2 off66_3 off66_4 off66_5
attribute [go_sem] off66_6 kind67 size67 bytes67 kind69 size69 bytes69 off69_0 off69_1 off69_2 off69_3 off69_4 off69_5 off69_6 kind80 size80 bytes80 off80_0 off80_1 off80_2 kind84 size84 bytes84 kind98 size98 bytes98 kind100 size100 bytes100 off100_0 off100_1 off100_2 kind102 size102 bytes102 kind106 size106 bytes106 kind115 size115
attribute [go_sem] bytes115 zero3 zero4 zero5 zero9 zero22 zero23 zero24 zero26 zero28 zero29 zero31 zero33 zero35 zero62 zero64 zero66 zero67 zero69 zero80 zero98 zero100 zero102 zero106 zero115
end Go.Proofs.YtlgdijjkegeccaaGreat
namespace Go.Proofs.YtlgdijjkegeccaaGreat
open Go Go.RowKit Go.Bv
set_option linter.unusedSimpArgs false
set_option linter.unusedVariables false
set_option maxRecDepth 4000
theorem wrap_small {n : Int} (h : -9223372036854775808 ≤ n) (h' : n ≤ 9223372036854775807) : IntKind.i64.wrap n = n := by rw [IntKind.wrap_i64]; omega

/-! Lists, piece by piece -/
section
variable {α : Type}
def sumL (w : α → Nat) (f : List α) : Nat := (f.map w).sum
theorem sumL_append (w : α → Nat) (f g : List α) : sumL w (f ++ g) = sumL w f + sumL w g := by simp [sumL]
theorem sumL_succ (w : α → Nat) {f : List α} {i : Nat} {x : α} (h : f[i]? = some x) : sumL w (f.take (i + 1)) = sumL w (f.take i) + w x := by
  rw [List.take_add_one, h, sumL_append]; simp [sumL]
theorem sumL_le (w : α → Nat) (f : List α) (i : Nat) : sumL w (f.take i) ≤ sumL w f := by
  have := sumL_append w (f.take i) (f.drop i)
  rw [List.take_append_drop] at this
  omega
theorem sumL_mem (w : α → Nat) {f : List α} {i : Nat} {x : α} (h : f[i]? = some x) : w x ≤ sumL w f := by
  have := sumL_succ w h
  have := sumL_le w f (i + 1)
  omega
theorem sumL_zero (w : α → Nat) (h : ∀ x, w x = 0) (f : List α) : sumL w f = 0 := by
  induction f with
  | nil => rfl
  | cons x f ih => simp only [sumL, List.map_cons, List.sum_cons, h] at ih ⊢; omega
theorem w_le (w : α → Nat) {f : List α} {i : Nat} {x : α} {n : Nat} (h : f[i]? = some x) (hw : f.length + sumL w f ≤ n) : w x ≤ n := by
  have := sumL_mem w h
  omega
theorem sum10 {mw w : α → Nat} (h : ∀ x, mw x ≤ 10 * (1 + w x)) (f : List α) : sumL mw f ≤ 10 * (f.length + sumL w f) := by
  induction f with
  | nil => simp [sumL]
  | cons x f ih => have := h x; simp only [sumL, List.map_cons, List.sum_cons, List.length_cons] at ih ⊢; omega
variable (me : α → Int → α) (mw : α → Nat)
/-- All marked, in their order. -/
def mkL : List α → Int → List α
  | [], _ => []
  | x :: xs, k => me x k :: mkL xs (k + (mw x : Nat))
theorem mkL_len : ∀ (f : List α) (k : Int), (mkL me mw f k).length = f.length
  | [], _ => rfl
  | x :: f, k => by simp [mkL, mkL_len f]
theorem mkL_append : ∀ (f g : List α) (k : Int), mkL me mw (f ++ g) k = mkL me mw f k ++ mkL me mw g (k + (sumL mw f : Nat))
  | [], g, k => by simp [mkL, sumL]
  | x :: f, g, k => by
    simp only [List.cons_append, mkL, mkL_append f g]
    rw [show k + ((mw x : Nat) : Int) + ((sumL mw f : Nat) : Int) = k + ((sumL mw (x :: f) : Nat) : Int) by simp only [sumL, List.map_cons, List.sum_cons]; omega]
/-- The first i are marked. -/
def mkI (f : List α) (i : Nat) (k : Int) : List α := mkL me mw (f.take i) k ++ f.drop i
theorem mkI_zero (f : List α) (k : Int) : mkI me mw f 0 k = f := by simp [mkI, mkL]
theorem mkI_len (f : List α) (i : Nat) (k : Int) : (mkI me mw f i k).length = f.length := by
  simp only [mkI, List.length_append, mkL_len, List.length_take, List.length_drop]; omega
theorem mkI_all {f : List α} {i : Nat} (h : f.length ≤ i) {k : Int} : mkI me mw f i k = mkL me mw f k := by
  rw [mkI, List.take_of_length_le h, List.drop_of_length_le h, List.append_nil]
theorem mkI_at {f : List α} {i : Nat} {x : α} (h : f[i]? = some x) {k : Int} : (mkI me mw f i k)[i]? = some x := by
  have hi := (List.getElem?_eq_some_iff.1 h).1
  have hl : (mkL me mw (f.take i) k).length = i := by rw [mkL_len, List.length_take]; omega
  unfold mkI
  rw [List.getElem?_append_right (by omega), hl, Nat.sub_self, List.getElem?_drop]
  simpa using h
theorem mkI_set {f : List α} {i : Nat} {x : α} (h : f[i]? = some x) {k : Int} : (mkI me mw f i k).set i (me x (k + (sumL mw (f.take i) : Nat))) = mkI me mw f (i + 1) k := by
  have hi := (List.getElem?_eq_some_iff.1 h).1
  have hx := (List.getElem?_eq_some_iff.1 h).2
  have hl : (mkL me mw (f.take i) k).length = i := by rw [mkL_len, List.length_take]; omega
  unfold mkI
  rw [List.set_append_right _ _ (by omega), hl, Nat.sub_self, List.take_add_one, h, Option.toList_some, mkL_append, show f.drop i = x :: f.drop (i + 1) by rw [List.drop_eq_getElem_cons hi, hx]]
  simp [mkL]
theorem mkL_at {f : List α} {i : Nat} {x : α} (h : f[i]? = some x) (k : Int) : (mkL me mw f k)[i]? = some (me x (k + (sumL mw (f.take i) : Nat))) := by
  have hi := (List.getElem?_eq_some_iff.1 h).1
  have hl : (mkL me mw (f.take i) k).length = i := by rw [mkL_len, List.length_take]; omega
  conv => lhs; rw [← List.take_append_drop i f]
  rw [mkL_append, List.getElem?_append_right (by omega), hl, Nat.sub_self, List.drop_eq_getElem_cons hi]
  simp [mkL, (List.getElem?_eq_some_iff.1 h).2]
/-- The first i are there, the others are zero. -/
def fillL (enc : α → AV) (z : AV) (f : List α) (i : Nat) : List AV := (f.take i).map enc ++ List.replicate (f.length - i) z
theorem fillL_at (enc : α → AV) (z : AV) {f : List α} {i : Nat} (h : i < f.length) : (fillL enc z f i)[i]? = some z := by
  unfold fillL
  rw [List.getElem?_append_right (by simp; omega), List.getElem?_replicate, if_pos (by simp; omega)]
theorem fillL_set (enc : α → AV) (z : AV) {f : List α} {i : Nat} {t : α} (h : f[i]? = some t) : (fillL enc z f i).set i (enc t) = fillL enc z f (i + 1) := by
  have hi := (List.getElem?_eq_some_iff.1 h).1
  have ht := (List.getElem?_eq_some_iff.1 h).2
  unfold fillL
  rw [List.set_append_right _ _ (by simp; omega)]
  rw [← List.take_append_getElem hi, ht]
  have e : f.length - i = (f.length - (i + 1)) + 1 := by omega
  have e2 : i - ((f.take i).map enc).length = 0 := by simp; omega
  rw [e2, e, List.replicate_succ]
  simp
theorem fillL_all (enc : α → AV) (z : AV) {f : List α} {i : Nat} (h : f.length ≤ i) : fillL enc z f i = f.map enc := by
  unfold fillL
  rw [List.take_of_length_le h, Nat.sub_eq_zero_of_le h]; simp
theorem take_map_len {β : Type} (f : List α) (g : α → β) : List.take f.length (f.map g) = f.map g := List.take_of_length_le (by simp)
theorem ashs_map {g h : α → AV} (H : ∀ x, ash (g x) = h x) (f : List α) : ashs (f.map g) = f.map h := by
  induction f with
  | nil => rfl
  | cons t f ih => simp only [List.map_cons, ashs, ih, H]
theorem plAs_map {g : α → AV} (H : ∀ x, plA (g x) = true) (f : List α) : plAs (f.map g) = true := by
  induction f with
  | nil => rfl
  | cons t f ih => simp only [List.map_cons, plAs, ih, H, Bool.and_self]
theorem leafAs_map {g : α → AV} (H : ∀ x, leafA (g x) = true) (f : List α) : leafAs (f.map g) = true := by
  induction f with
  | nil => rfl
  | cons t f ih => simp only [List.map_cons, leafAs, ih, H, Bool.and_self]
theorem noShs_map {g : α → AV} (H : ∀ x, noSh (g x) = true) (f : List α) : noShs (f.map g) = true := by
  induction f with
  | nil => rfl
  | cons t f ih => simp only [List.map_cons, noShs, ih, H, Bool.and_self]
theorem alen_map {g : α → AV} {n : Nat} (H : ∀ x, alen (g x) = n) (f : List α) : ((f.map g).all fun u => alen u == n) = true := by
  induction f with
  | nil => rfl
  | cons t f ih => simp only [List.map_cons, List.all_cons, ih, H, beq_self_eq_true, Bool.and_self]
end
attribute [go_sem] take_map_len
theorem plAs_set : ∀ {M : List AV} {i : Nat} {v : AV}, plAs M = true → plA v = true → plAs (M.set i v) = true
  | [], _, _, _, _ => rfl
  | x :: M, 0, v, h, hv => by simp only [plAs, Bool.and_eq_true] at h; simp [plAs, h.2, hv]
  | x :: M, i + 1, v, h, hv => by simp only [plAs, Bool.and_eq_true] at h; simp [plAs, h.1, plAs_set h.2 hv]
attribute [go_sem] plAs_set

/-- What is left of a room behind a weight; -1: it is too small. -/
def szW (w : Nat) (left : Int) : Int := if (w : Int) ≤ left then left - w else -1
theorem szW_le {w : Nat} {l n : Int} (h : l ≤ n) (hn : 0 ≤ n := by omega) : szW w l ≤ n := by unfold szW; split <;> omega
theorem szW_cases (w : Nat) (l : Int) : ((w : Int) ≤ l ∧ szW w l = l - w) ∨ (¬ (w : Int) ≤ l ∧ szW w l = -1) := by
  unfold szW; split <;> simp_all
/-! The marks -/
/-- The digits of k ahead of a text. -/
def mDig (k : Nat) (out : ByteArray) : ByteArray :=
  if h : k = 0 then out else mDig (k / 10) (⟨#[UInt8.ofNat (48 + k % 10)]⟩ ++ out)
termination_by k
decreasing_by omega
def mText (k : Int) : ByteArray := if k ≤ 0 then { data := #[109, 48] } else { data := #[109] } ++ mDig k.toNat { data := #[] }
def mBool (k : Int) : Bool := Int.tmod k 3 == 0
/-- The same text. -/
def sameS (a b : ByteArray) : Bool := a.toList == b.toList

/-! The types -/
end Go.Proofs.YtlgdijjkegeccaaGreat
namespace Go.Proofs.YtlgdijjkegeccaaGreat
open Go Go.RowKit Go.Bv
set_option linter.unusedSimpArgs false
set_option linter.unusedVariables false
set_option maxRecDepth 4000
theorem c_spec_l1In (x a b : Int) : Sound P 42 [.int .i64 x, .int .i64 a, .int .i64 b] (.bool (decide (x ≥ a) && decide (x ≤ b))) := by
  refine snd_b hT Tryz.func42 Tryz.results42 Tryz.ntmps42 ?_
  repeat' (first | refine one ?_ | (refine two ?_ ?_; all_goals (intro h; try simp only [Bool.not_eq_true', Bool.not_eq_false', reduceCtorEq] at h)) | fail)
  all_goals ((simp only [go_sem, *]); first | done | simp [*])
noncomputable abbrev ic_spec_l1In := Con.mk (P := P) (f := 42) Tryz.call42 @c_spec_l1In
attribute [instance] ic_spec_l1In
theorem c_impl_within (x a b : Int) : Sound P 54 [.int .i64 x, .int .i64 a, .int .i64 b] (.bool (decide (x ≥ a) && decide (x ≤ b))) := by
  refine snd_b hT Tryz.func54 Tryz.results54 Tryz.ntmps54 ?_
  repeat' (first | refine one ?_ | (refine two ?_ ?_; all_goals (intro h; try simp only [Bool.not_eq_true', Bool.not_eq_false', reduceCtorEq] at h)) | fail)
  all_goals ((simp only [go_sem, *]); first | done | simp [*])

noncomputable abbrev ic_impl_within := Con.mk (P := P) (f := 54) Tryz.call54 @c_impl_within
attribute [instance] ic_impl_within
/-- How many a term takes from the stack. -/
def takesI (o : Int) : Int := if o = 8 then 1 else if o = 9 ∨ o = 10 then 2 else 0
theorem c_impl_takes (o n : Int) (s : ByteArray) : Sound P 88 [.agg [.int .i64 o, .int .i64 n, .str s]] (.int .i64 (takesI o)) := by
  refine snd_b hT Tryz.func88 Tryz.results88 Tryz.ntmps88 ?_
  repeat' (first | refine one ?_ | (refine two ?_ ?_; all_goals (intro h; try simp only [Bool.not_eq_true', Bool.not_eq_false', reduceCtorEq] at h)) | fail)
  all_goals ((simp only [go_sem, *]); first | done | simp_all [takesI])
noncomputable abbrev ic_impl_takes := Con.mk (P := P) (f := 88) Tryz.call88 @c_impl_takes
attribute [instance] ic_impl_takes
end Go.Proofs.YtlgdijjkegeccaaGreat
namespace Go.Proofs.YtlgdijjkegeccaaGreat
open Go Go.RowKit Go.Bv
set_option linter.unusedSimpArgs false
set_option linter.unusedVariables false
set_option maxRecDepth 4000

def letB (b : UInt8) : Bool := !(decide ((b.toNat : Int) < 97)) && !(decide ((b.toNat : Int) > 122))
def letters (s : ByteArray) : Bool := s.data.toList.all letB
def partB (s : ByteArray) : Bool := decide ((s.size : Int) ≥ 1) && decide ((s.size : Int) ≤ 10) && letters s
theorem letters_at {s : ByteArray} {i : Nat} {b : UInt8} (h : s[i]? = some b) (hl : letters s = true) : letB b = true := by
  unfold letters at hl
  rw [List.all_eq_true] at hl
  refine hl b ?_
  have : s.data[i]? = some b := by
    rw [← h]; rfl
  exact Array.mem_toList_iff.2 (Array.mem_of_getElem? this)
theorem letters_of {s : ByteArray} (h : ∀ j b, j < s.size → s[j]? = some b → letB b = true) : letters s = true := by
  unfold letters
  rw [List.all_eq_true]
  intro b hb
  obtain ⟨j, hj, rfl⟩ := List.getElem_of_mem hb
  have hj' : j < s.size := by simpa using hj
  refine h j _ hj' ?_
  have : s[j]? = s.data[j]? := rfl
  rw [this, Array.getElem?_eq_getElem hj']
  simp
theorem byte_at {s : ByteArray} {i : Nat} (h : i < s.size) : ∃ b, s[i]? = some b := ⟨s[i], by simp [h]⟩

def Upto (s : ByteArray) (i : Nat) : Prop := ∀ j b, j < i → s[j]? = some b → letB b = true
theorem Upto.succ {s : ByteArray} {i : Nat} {b : UInt8} (h : Upto s i) (hb : s[i]? = some b) (hl : letB b = true) : Upto s (i + 1) := by
  intro j c hj hc
  by_cases e : j = i
  · subst e; rw [hb] at hc; cases hc; exact hl
  · exact h j c (by omega) hc
theorem Upto.all {s : ByteArray} {i : Nat} (h : Upto s i) (hi : s.size ≤ i) : letters s = true := letters_of fun j b hj hb => h j b (by omega) hb
theorem part_not {s : ByteArray} {i : Nat} {b : UInt8} (hb : s[i]? = some b) (hl : letB b = false) : letters s = false := by
  cases h : letters s with
  | false => rfl
  | true => rw [letters_at hb h] at hl; cases hl
theorem c_spec_l8Part (s : ByteArray) (hs : s.size < 4611686018427387904) : Sound P 94 [.str s] (.bool (partB s)) := by
  refine snd_b hT Tryz.func94 Tryz.results94 Tryz.ntmps94 ?_
  repeat' (first | refine one ?_ | (refine two ?_ ?_; all_goals (intro h; try simp only [Bool.not_eq_true', Bool.not_eq_false', reduceCtorEq] at h)) | fail)
  · (simp only [go_sem, *])
    first | done | simp [partB, h]
  · have h0 := h
    clear h
    refine aw_loop [1, 4, 5, 6, 7, 8, 9, 10, 11, 12, 13, 14, 15, 16, 17, 18, 19, 20, 21, 22, 23] (fun n S => ∃ i : Nat, n = s.size - i ∧ i ≤ s.size ∧ Upto s i ∧ S = [.str s, .undef, .bool false, .int .i64 i, .undef, .undef, .undef, .undef, .undef, .undef, .undef, .undef, .undef, .undef, .undef, .undef, .undef, .undef, .undef, .undef, .undef, .undef, .undef, .undef]) s.size ?_ ?_
    · refine ⟨0, by simp, by omega, fun j b hj => by omega, ?_⟩
      simp only [clr, go_sem]
      first | done | rfl
    · rintro n S ⟨i, hn, hi, hl, rfl⟩
      have hw : IntKind.i64.wrap ((i : Int) + 1) = ((i + 1 : Nat) : Int) := by rw [wrap_small] <;> omega
      by_cases hlt : i < s.size
      · have hd : decide ((i : Int) < (s.size : Int)) = true := by simp [hlt]
        obtain ⟨b, hb⟩ := byte_at hlt
        repeat' (first | refine one ?_ | (refine two ?_ ?_; all_goals (intro h; try simp only [Bool.not_eq_true', Bool.not_eq_false', reduceCtorEq] at h)) | fail)
        · (simp only [go_sem, *])
          have hp : partB s = false := by rw [partB, part_not hb (by simp [letB, *])]; simp
          rw [hp]
        · refine ⟨s.size - (i + 1), by omega, i + 1, rfl, by omega, hl.succ hb (by simp [letB, *]), ?_⟩
          simp only [clr, go_sem, hw]
        · (simp only [go_sem, *])
          have hp : partB s = false := by rw [partB, part_not hb (by simp [letB, *])]; simp
          rw [hp]
      · have hd : decide ((i : Int) < (s.size : Int)) = false := by simp; omega
        repeat' (first | refine one ?_ | (refine two ?_ ?_; all_goals (intro h; try simp only [Bool.not_eq_true', Bool.not_eq_false', reduceCtorEq] at h)) | fail)
        (simp only [go_sem, *])
        have hp : partB s = true := by rw [partB, hl.all (by omega)]; simpa using h0
        rw [hp]

noncomputable abbrev ic_spec_l8Part := Con.mk (P := P) (f := 94) Tryz.call94 @c_spec_l8Part
attribute [instance] ic_spec_l8Part
theorem c_impl_partOk (s : ByteArray) (hs : s.size < 4611686018427387904) : Sound P 96 [.str s] (.bool (partB s)) := by
  refine snd_b hT Tryz.func96 Tryz.results96 Tryz.ntmps96 ?_
  repeat' (first | refine one ?_ | (refine two ?_ ?_; all_goals (intro h; try simp only [Bool.not_eq_true', Bool.not_eq_false', reduceCtorEq] at h)) | fail)
  · refine aw_loop [1, 3, 4, 7, 8, 9, 10, 11, 12, 13, 14, 15, 16, 17, 18, 19, 20, 21, 22] (fun n S => ∃ i : Nat, n = s.size - i ∧ i ≤ s.size ∧ Upto s i ∧ S = [.str s, .undef, .bool false, .undef, .undef, .int .i64 s.size, .int .i64 i, .undef, .undef, .undef, .undef, .undef, .undef, .undef, .undef, .undef, .undef, .undef, .undef, .undef, .undef, .undef, .undef]) s.size ?_ ?_
    · refine ⟨0, by simp, by omega, fun j b hj => by omega, ?_⟩
      simp only [clr, go_sem]
      first | done | rfl
    · rintro n S ⟨i, hn, hi, hl, rfl⟩
      have hw : IntKind.i64.wrap ((i : Int) + 1) = ((i + 1 : Nat) : Int) := by rw [wrap_small] <;> omega
      by_cases hlt : i < s.size
      · have hd : decide ((i : Int) < (s.size : Int)) = true := by simp [hlt]
        obtain ⟨b, hb⟩ := byte_at hlt
        repeat' (first | refine one ?_ | (refine two ?_ ?_; all_goals (intro h; try simp only [Bool.not_eq_true', Bool.not_eq_false', reduceCtorEq] at h)) | fail)
        · (simp only [go_sem, *])
          have hp : partB s = false := by rw [partB, part_not hb (by simp [letB, *])]; simp
          rw [hp]
        · refine ⟨s.size - (i + 1), by omega, i + 1, rfl, by omega, hl.succ hb (by simp [letB, *]), ?_⟩
          simp only [clr, go_sem, hw]
        · (simp only [go_sem, *])
          have hp : partB s = false := by rw [partB, part_not hb (by simp [letB, *])]; simp
          rw [hp]
      · have hd : decide ((i : Int) < (s.size : Int)) = false := by simp; omega
        repeat' (first | refine one ?_ | (refine two ?_ ?_; all_goals (intro h; try simp only [Bool.not_eq_true', Bool.not_eq_false', reduceCtorEq] at h)) | fail)
        (simp only [go_sem, *])
        have hp : partB s = (decide ((s.size : Int) ≥ 1) && decide ((s.size : Int) ≤ 10)) := by rw [partB, hl.all (by omega)]; simp
        rw [hp]
noncomputable abbrev ic_impl_partOk := Con.mk (P := P) (f := 96) Tryz.call96 @c_impl_partOk
attribute [instance] ic_impl_partOk
end Go.Proofs.YtlgdijjkegeccaaGreat
