/- The seat's types, as the plain steps want them. -/
import Derived.Test.YtedjmclcjkcooaaBvM4
import Derived.Test.YtedjmclcjkcooaaProg
namespace Go.Proofs.Ytedjmclcjkcooaa
open Go Go.RowKit Go.Bv
set_option linter.unusedSimpArgs false
set_option linter.unusedVariables false
noncomputable abbrev P := Try.prog
theorem mixed : P.follows .mixedOrders = true := by rfl
noncomputable abbrev G : Tab := tabOf P
theorem hT : TabOk P G := tabOf_ok P mixed
theorem kind3 : G.kind 3 = .int .i64 := kind_eq Try.type3 Try.underlying3
theorem size3 : G.size 3 = 1 := by rw [size_eq Try.type3]; rfl
theorem bytes3 : G.bytes 3 = 8 := by rw [bytes_eq Try.type3]; rfl
theorem kind4 : G.kind 4 = .bool := kind_eq Try.type4 Try.underlying4
theorem size4 : G.size 4 = 1 := by rw [size_eq Try.type4]; rfl
theorem bytes4 : G.bytes 4 = 1 := by rw [bytes_eq Try.type4]; rfl
theorem kind5 : G.kind 5 = .int .u8 := kind_eq Try.type5 Try.underlying5
theorem size5 : G.size 5 = 1 := by rw [size_eq Try.type5]; rfl
theorem bytes5 : G.bytes 5 = 1 := by rw [bytes_eq Try.type5]; rfl
theorem kind9 : G.kind 9 = .str := kind_eq Try.type9 Try.underlying9
theorem size9 : G.size 9 = 1 := by rw [size_eq Try.type9]; rfl
theorem bytes9 : G.bytes 9 = 16 := by rw [bytes_eq Try.type9]; rfl
theorem kind21 : G.kind 21 = .int .i32 := kind_eq Try.type21 Try.underlying21
theorem size21 : G.size 21 = 1 := by rw [size_eq Try.type21]; rfl
theorem bytes21 : G.bytes 21 = 4 := by rw [bytes_eq Try.type21]; rfl
theorem kind22 : G.kind 22 = .sl 63 := kind_eq Try.type22 Try.underlying22
theorem size22 : G.size 22 = 1 := by rw [size_eq Try.type22]; rfl
theorem bytes22 : G.bytes 22 = 24 := by rw [bytes_eq Try.type22]; rfl
theorem kind24 : G.kind 24 = .st [3, 3, 9] := kind_eq Try.type24 Try.underlying24
theorem size24 : G.size 24 = 3 := by rw [size_eq Try.type24]; rfl
theorem bytes24 : G.bytes 24 = 32 := by rw [bytes_eq Try.type24]; rfl
theorem off24_0 : G.off 24 0 = 0 := by rw [off_eq (f := 0) Try.underlying24 rfl]; rfl
theorem off24_1 : G.off 24 1 = 1 := by rw [off_eq (f := 1) Try.underlying24 rfl]; rfl
theorem off24_2 : G.off 24 2 = 2 := by rw [off_eq (f := 2) Try.underlying24 rfl]; rfl
theorem kind28 : G.kind 28 = .sl 66 := kind_eq Try.type28 Try.underlying28
theorem size28 : G.size 28 = 1 := by rw [size_eq Try.type28]; rfl
theorem bytes28 : G.bytes 28 = 24 := by rw [bytes_eq Try.type28]; rfl
theorem kind30 : G.kind 30 = .st [3, 3, 9] := kind_eq Try.type30 Try.underlying30
theorem size30 : G.size 30 = 3 := by rw [size_eq Try.type30]; rfl
theorem bytes30 : G.bytes 30 = 32 := by rw [bytes_eq Try.type30]; rfl
theorem off30_0 : G.off 30 0 = 0 := by rw [off_eq (f := 0) Try.underlying30 rfl]; rfl
theorem off30_1 : G.off 30 1 = 1 := by rw [off_eq (f := 1) Try.underlying30 rfl]; rfl
theorem off30_2 : G.off 30 2 = 2 := by rw [off_eq (f := 2) Try.underlying30 rfl]; rfl
theorem kind34 : G.kind 34 = .sl 3 := kind_eq Try.type34 Try.underlying34
theorem size34 : G.size 34 = 1 := by rw [size_eq Try.type34]; rfl
theorem bytes34 : G.bytes 34 = 24 := by rw [bytes_eq Try.type34]; rfl
theorem kind36 : G.kind 36 = .st [24, 3, 4, 34, 34] := kind_eq Try.type36 Try.underlying36
theorem size36 : G.size 36 = 7 := by rw [size_eq Try.type36]; rfl
theorem bytes36 : G.bytes 36 = 96 := by rw [bytes_eq Try.type36]; rfl
theorem off36_0 : G.off 36 0 = 0 := by rw [off_eq (f := 0) Try.underlying36 rfl]; rfl
theorem off36_1 : G.off 36 1 = 3 := by rw [off_eq (f := 1) Try.underlying36 rfl]; rfl
theorem off36_2 : G.off 36 2 = 4 := by rw [off_eq (f := 2) Try.underlying36 rfl]; rfl
theorem off36_3 : G.off 36 3 = 5 := by rw [off_eq (f := 3) Try.underlying36 rfl]; rfl
theorem off36_4 : G.off 36 4 = 6 := by rw [off_eq (f := 4) Try.underlying36 rfl]; rfl
theorem kind39 : G.kind 39 = .st [30, 3, 4, 34, 34] := kind_eq Try.type39 Try.underlying39
theorem size39 : G.size 39 = 7 := by rw [size_eq Try.type39]; rfl
theorem bytes39 : G.bytes 39 = 96 := by rw [bytes_eq Try.type39]; rfl
theorem off39_0 : G.off 39 0 = 0 := by rw [off_eq (f := 0) Try.underlying39 rfl]; rfl
theorem off39_1 : G.off 39 1 = 3 := by rw [off_eq (f := 1) Try.underlying39 rfl]; rfl
theorem off39_2 : G.off 39 2 = 4 := by rw [off_eq (f := 2) Try.underlying39 rfl]; rfl
theorem off39_3 : G.off 39 3 = 5 := by rw [off_eq (f := 3) Try.underlying39 rfl]; rfl
theorem off39_4 : G.off 39 4 = 6 := by rw [off_eq (f := 4) Try.underlying39 rfl]; rfl
theorem kind48 : G.kind 48 = .st [3, 24] := kind_eq Try.type48 Try.underlying48
theorem size48 : G.size 48 = 4 := by rw [size_eq Try.type48]; rfl
theorem bytes48 : G.bytes 48 = 40 := by rw [bytes_eq Try.type48]; rfl
theorem off48_0 : G.off 48 0 = 0 := by rw [off_eq (f := 0) Try.underlying48 rfl]; rfl
theorem off48_1 : G.off 48 1 = 1 := by rw [off_eq (f := 1) Try.underlying48 rfl]; rfl
theorem kind53 : G.kind 53 = .st [3, 30] := kind_eq Try.type53 Try.underlying53
theorem size53 : G.size 53 = 4 := by rw [size_eq Try.type53]; rfl
theorem bytes53 : G.bytes 53 = 40 := by rw [bytes_eq Try.type53]; rfl
theorem off53_0 : G.off 53 0 = 0 := by rw [off_eq (f := 0) Try.underlying53 rfl]; rfl
theorem off53_1 : G.off 53 1 = 1 := by rw [off_eq (f := 1) Try.underlying53 rfl]; rfl
theorem kind63 : G.kind 63 = .st [3, 3, 9] := kind_eq Try.type63 Try.underlying63
theorem size63 : G.size 63 = 3 := by rw [size_eq Try.type63]; rfl
theorem bytes63 : G.bytes 63 = 32 := by rw [bytes_eq Try.type63]; rfl
theorem off63_0 : G.off 63 0 = 0 := by rw [off_eq (f := 0) Try.underlying63 rfl]; rfl
theorem off63_1 : G.off 63 1 = 1 := by rw [off_eq (f := 1) Try.underlying63 rfl]; rfl
theorem off63_2 : G.off 63 2 = 2 := by rw [off_eq (f := 2) Try.underlying63 rfl]; rfl
theorem kind66 : G.kind 66 = .st [3, 3, 9] := kind_eq Try.type66 Try.underlying66
theorem size66 : G.size 66 = 3 := by rw [size_eq Try.type66]; rfl
theorem bytes66 : G.bytes 66 = 32 := by rw [bytes_eq Try.type66]; rfl
theorem off66_0 : G.off 66 0 = 0 := by rw [off_eq (f := 0) Try.underlying66 rfl]; rfl
theorem off66_1 : G.off 66 1 = 1 := by rw [off_eq (f := 1) Try.underlying66 rfl]; rfl
theorem off66_2 : G.off 66 2 = 2 := by rw [off_eq (f := 2) Try.underlying66 rfl]; rfl
theorem kind84 : G.kind 84 = .sl 9 := kind_eq Try.type84 Try.underlying84
theorem size84 : G.size 84 = 1 := by rw [size_eq Try.type84]; rfl
theorem bytes84 : G.bytes 84 = 24 := by rw [bytes_eq Try.type84]; rfl
theorem kind90 : G.kind 90 = .sl 4 := kind_eq Try.type90 Try.underlying90
theorem size90 : G.size 90 = 1 := by rw [size_eq Try.type90]; rfl
theorem bytes90 : G.bytes 90 = 24 := by rw [bytes_eq Try.type90]; rfl
theorem kind96 : G.kind 96 = .sl 5 := kind_eq Try.type96 Try.underlying96
theorem size96 : G.size 96 = 1 := by rw [size_eq Try.type96]; rfl
theorem bytes96 : G.bytes 96 = 24 := by rw [bytes_eq Try.type96]; rfl
theorem kind97 : G.kind 97 = .ptr := kind_eq Try.type97 Try.underlying97
theorem size97 : G.size 97 = 1 := by rw [size_eq Try.type97]; rfl
theorem bytes97 : G.bytes 97 = 8 := by rw [bytes_eq Try.type97]; rfl
theorem kind99 : G.kind 99 = .st [97, 96] := kind_eq Try.type99 Try.underlying99
theorem size99 : G.size 99 = 2 := by rw [size_eq Try.type99]; rfl
theorem bytes99 : G.bytes 99 = 32 := by rw [bytes_eq Try.type99]; rfl
theorem off99_0 : G.off 99 0 = 0 := by rw [off_eq (f := 0) Try.underlying99 rfl]; rfl
theorem off99_1 : G.off 99 1 = 1 := by rw [off_eq (f := 1) Try.underlying99 rfl]; rfl
theorem kind112 : G.kind 112 = .sl 34 := kind_eq Try.type112 Try.underlying112
theorem size112 : G.size 112 = 1 := by rw [size_eq Try.type112]; rfl
theorem bytes112 : G.bytes 112 = 24 := by rw [bytes_eq Try.type112]; rfl
theorem kind113 : G.kind 113 = .ptr := kind_eq Try.type113 Try.underlying113
theorem size113 : G.size 113 = 1 := by rw [size_eq Try.type113]; rfl
theorem bytes113 : G.bytes 113 = 8 := by rw [bytes_eq Try.type113]; rfl
theorem kind120 : G.kind 120 = .int .u32 := kind_eq Try.type120 Try.underlying120
theorem size120 : G.size 120 = 1 := by rw [size_eq Try.type120]; rfl
theorem bytes120 : G.bytes 120 = 4 := by rw [bytes_eq Try.type120]; rfl
theorem kindOf3 : kindOf P 3 = .int .i64 := kindOf_eq Try.type3 Try.underlying3
theorem kindOf4 : kindOf P 4 = .bool := kindOf_eq Try.type4 Try.underlying4
theorem kindOf5 : kindOf P 5 = .int .u8 := kindOf_eq Try.type5 Try.underlying5
theorem kindOf9 : kindOf P 9 = .str := kindOf_eq Try.type9 Try.underlying9
theorem kindOf21 : kindOf P 21 = .int .i32 := kindOf_eq Try.type21 Try.underlying21
theorem kindOf22 : kindOf P 22 = .sl 63 := kindOf_eq Try.type22 Try.underlying22
theorem kindOf24 : kindOf P 24 = .st [3, 3, 9] := kindOf_eq Try.type24 Try.underlying24
theorem kindOf28 : kindOf P 28 = .sl 66 := kindOf_eq Try.type28 Try.underlying28
theorem kindOf30 : kindOf P 30 = .st [3, 3, 9] := kindOf_eq Try.type30 Try.underlying30
theorem kindOf34 : kindOf P 34 = .sl 3 := kindOf_eq Try.type34 Try.underlying34
theorem kindOf36 : kindOf P 36 = .st [24, 3, 4, 34, 34] := kindOf_eq Try.type36 Try.underlying36
theorem kindOf39 : kindOf P 39 = .st [30, 3, 4, 34, 34] := kindOf_eq Try.type39 Try.underlying39
theorem kindOf48 : kindOf P 48 = .st [3, 24] := kindOf_eq Try.type48 Try.underlying48
theorem kindOf53 : kindOf P 53 = .st [3, 30] := kindOf_eq Try.type53 Try.underlying53
theorem kindOf63 : kindOf P 63 = .st [3, 3, 9] := kindOf_eq Try.type63 Try.underlying63
theorem kindOf66 : kindOf P 66 = .st [3, 3, 9] := kindOf_eq Try.type66 Try.underlying66
theorem kindOf84 : kindOf P 84 = .sl 9 := kindOf_eq Try.type84 Try.underlying84
theorem kindOf90 : kindOf P 90 = .sl 4 := kindOf_eq Try.type90 Try.underlying90
theorem kindOf96 : kindOf P 96 = .sl 5 := kindOf_eq Try.type96 Try.underlying96
theorem kindOf97 : kindOf P 97 = .ptr := kindOf_eq Try.type97 Try.underlying97
theorem kindOf99 : kindOf P 99 = .st [97, 96] := kindOf_eq Try.type99 Try.underlying99
theorem kindOf112 : kindOf P 112 = .sl 34 := kindOf_eq Try.type112 Try.underlying112
theorem kindOf113 : kindOf P 113 = .ptr := kindOf_eq Try.type113 Try.underlying113
theorem kindOf120 : kindOf P 120 = .int .u32 := kindOf_eq Try.type120 Try.underlying120
theorem tagOf3 : tagOf P 3 = 0 := tagOf_no kindOf3 (by simp)
theorem tagOf4 : tagOf P 4 = 0 := tagOf_no kindOf4 (by simp)
theorem tagOf5 : tagOf P 5 = 0 := tagOf_no kindOf5 (by simp)
theorem tagOf9 : tagOf P 9 = 0 := tagOf_no kindOf9 (by simp)
theorem tagOf21 : tagOf P 21 = 0 := tagOf_no kindOf21 (by simp)
theorem tagOf22 : tagOf P 22 = 3 := tagOf_eq kindOf22 Try.type63
theorem tagOf28 : tagOf P 28 = 3 := tagOf_eq kindOf28 Try.type66
theorem tagOf34 : tagOf P 34 = 1 := tagOf_eq kindOf34 Try.type3
theorem tagOf84 : tagOf P 84 = 1 := tagOf_eq kindOf84 Try.type9
theorem tagOf90 : tagOf P 90 = 1 := tagOf_eq kindOf90 Try.type4
theorem tagOf96 : tagOf P 96 = 1 := tagOf_eq kindOf96 Try.type5
theorem tagOf97 : tagOf P 97 = 0 := tagOf_no kindOf97 (by simp)
theorem tagOf112 : tagOf P 112 = 1 := tagOf_eq kindOf112 Try.type34
theorem tagOf113 : tagOf P 113 = 0 := tagOf_no kindOf113 (by simp)
theorem tagOf120 : tagOf P 120 = 0 := tagOf_no kindOf120 (by simp)
theorem zero3 : G.zero 3 = some (.int .i64 0) := zero_eq Try.type3 rfl rfl (by simp only [zread, zreads, zread1, kindOf3, tagOf3]; rfl)
theorem zero4 : G.zero 4 = some (.bool false) := zero_eq Try.type4 rfl rfl (by simp only [zread, zreads, zread1, kindOf4, tagOf4]; rfl)
theorem zero5 : G.zero 5 = some (.int .u8 0) := zero_eq Try.type5 rfl rfl (by simp only [zread, zreads, zread1, kindOf5, tagOf5]; rfl)
theorem zero9 : G.zero 9 = some (.str { data := #[] }) := zero_eq Try.type9 rfl rfl (by simp only [zread, zreads, zread1, kindOf9, tagOf9]; rfl)
theorem zero21 : G.zero 21 = some (.int .i32 0) := zero_eq Try.type21 rfl rfl (by simp only [zread, zreads, zread1, kindOf21, tagOf21]; rfl)
theorem zero22 : G.zero 22 = some (.lst true 3 []) := zero_eq Try.type22 rfl rfl (by simp only [zread, zreads, zread1, kindOf3, kindOf9, kindOf22, kindOf63, tagOf3, tagOf9, tagOf22]; rfl)
theorem zero24 : G.zero 24 = some (.agg [.int .i64 0, .int .i64 0, .str { data := #[] }]) := zero_eq Try.type24 rfl rfl (by simp only [zread, zreads, zread1, kindOf3, kindOf9, kindOf24, tagOf3, tagOf9]; rfl)
theorem zero28 : G.zero 28 = some (.lst true 3 []) := zero_eq Try.type28 rfl rfl (by simp only [zread, zreads, zread1, kindOf3, kindOf9, kindOf28, kindOf66, tagOf3, tagOf9, tagOf28]; rfl)
theorem zero30 : G.zero 30 = some (.agg [.int .i64 0, .int .i64 0, .str { data := #[] }]) := zero_eq Try.type30 rfl rfl (by simp only [zread, zreads, zread1, kindOf3, kindOf9, kindOf30, tagOf3, tagOf9]; rfl)
theorem zero34 : G.zero 34 = some (.lst true 1 []) := zero_eq Try.type34 rfl rfl (by simp only [zread, zreads, zread1, kindOf3, kindOf34, tagOf3, tagOf34]; rfl)
theorem zero36 : G.zero 36 = some (.agg [.agg [.int .i64 0, .int .i64 0, .str { data := #[] }], .int .i64 0, .bool false, .lst true 1 [], .lst true 1 []]) := zero_eq Try.type36 rfl rfl (by simp only [zread, zreads, zread1, kindOf3, kindOf4, kindOf9, kindOf24, kindOf34, kindOf36, tagOf3, tagOf4, tagOf9, tagOf34]; rfl)
theorem zero39 : G.zero 39 = some (.agg [.agg [.int .i64 0, .int .i64 0, .str { data := #[] }], .int .i64 0, .bool false, .lst true 1 [], .lst true 1 []]) := zero_eq Try.type39 rfl rfl (by simp only [zread, zreads, zread1, kindOf3, kindOf4, kindOf9, kindOf30, kindOf34, kindOf39, tagOf3, tagOf4, tagOf9, tagOf34]; rfl)
theorem zero48 : G.zero 48 = some (.agg [.int .i64 0, .agg [.int .i64 0, .int .i64 0, .str { data := #[] }]]) := zero_eq Try.type48 rfl rfl (by simp only [zread, zreads, zread1, kindOf3, kindOf9, kindOf24, kindOf48, tagOf3, tagOf9]; rfl)
theorem zero53 : G.zero 53 = some (.agg [.int .i64 0, .agg [.int .i64 0, .int .i64 0, .str { data := #[] }]]) := zero_eq Try.type53 rfl rfl (by simp only [zread, zreads, zread1, kindOf3, kindOf9, kindOf30, kindOf53, tagOf3, tagOf9]; rfl)
theorem zero63 : G.zero 63 = some (.agg [.int .i64 0, .int .i64 0, .str { data := #[] }]) := zero_eq Try.type63 rfl rfl (by simp only [zread, zreads, zread1, kindOf3, kindOf9, kindOf63, tagOf3, tagOf9]; rfl)
theorem zero66 : G.zero 66 = some (.agg [.int .i64 0, .int .i64 0, .str { data := #[] }]) := zero_eq Try.type66 rfl rfl (by simp only [zread, zreads, zread1, kindOf3, kindOf9, kindOf66, tagOf3, tagOf9]; rfl)
theorem zero84 : G.zero 84 = some (.lst true 1 []) := zero_eq Try.type84 rfl rfl (by simp only [zread, zreads, zread1, kindOf9, kindOf84, tagOf9, tagOf84]; rfl)
theorem zero90 : G.zero 90 = some (.lst true 1 []) := zero_eq Try.type90 rfl rfl (by simp only [zread, zreads, zread1, kindOf4, kindOf90, tagOf4, tagOf90]; rfl)
theorem zero96 : G.zero 96 = some (.lst true 1 []) := zero_eq Try.type96 rfl rfl (by simp only [zread, zreads, zread1, kindOf5, kindOf96, tagOf5, tagOf96]; rfl)
theorem zero112 : G.zero 112 = some (.lst true 1 []) := zero_eq Try.type112 rfl rfl (by simp only [zread, zreads, zread1, kindOf3, kindOf34, kindOf112, tagOf3, tagOf34, tagOf112]; rfl)
theorem zero120 : G.zero 120 = some (.int .u32 0) := zero_eq Try.type120 rfl rfl (by simp only [zread, zreads, zread1, kindOf120, tagOf120]; rfl)
attribute [go_sem] kind3 size3 bytes3 kind4 size4 bytes4 kind5 size5 bytes5 kind9 size9 bytes9 kind21 size21 bytes21 kind22 size22 bytes22 kind24 size24 bytes24 off24_0 off24_1 off24_2 kind28 size28 bytes28 kind30 size30 bytes30 off30_0 off30_1 off30_2 kind34 size34 bytes34 kind36 size36 bytes36 off36_0
attribute [go_sem] off36_1 off36_2 off36_3 off36_4 kind39 size39 bytes39 off39_0 off39_1 off39_2 off39_3 off39_4 kind48 size48 bytes48 off48_0 off48_1 kind53 size53 bytes53 off53_0 off53_1 kind63 size63 bytes63 off63_0 off63_1 off63_2 kind66 size66 bytes66 off66_0 off66_1 off66_2 kind84 size84 bytes84 kind90 size90 bytes90
attribute [go_sem] kind96 size96 bytes96 kind97 size97 bytes97 kind99 size99 bytes99 off99_0 off99_1 kind112 size112 bytes112 kind113 size113 bytes113 kind120 size120 bytes120 zero3 zero4 zero5 zero9 zero21 zero22 zero24 zero28 zero30 zero34 zero36 zero39 zero48 zero53 zero63 zero66 zero84 zero90 zero96 zero112
attribute [go_sem] zero120
end Go.Proofs.Ytedjmclcjkcooaa
