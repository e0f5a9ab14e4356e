/- Contracts of the law's helpers: the text of a mark. -/
import Derived.Test.YtlgdijjkegeccaaFnV
namespace Go.Proofs.Ytlgdijjkegeccaa
open Go Go.RowKit Go.Bv
set_option linter.unusedSimpArgs false
set_option linter.unusedVariables false
set_option maxRecDepth 4000
theorem c_laws_markText (k : Int) (h1 : k < 4611686018427387904) : Sound P 88 [.int .i64 k] (.str (mText k)) := by
  by_cases h0 : k ≤ 0
  · have hg : decide (k ≤ 0) = true := by simp [h0]
    refine snd_b hT Try.func88 Try.results88 Try.ntmps88 ?_
    repeat' (first | refine one ?_ | (refine two ?_ ?_; all_goals (intro h; try simp only [Bool.not_eq_true', Bool.not_eq_false', reduceCtorEq] at h)) | fail)
    (simp only [go_sem, *])
    first | done | simp [mText, h0]
  · have hg : decide (k ≤ 0) = false := by simp; omega
    refine snd_b hT Try.func88 Try.results88 Try.ntmps88 ?_
    repeat' (first | refine one ?_ | (refine two ?_ ?_; all_goals (intro h; try simp only [Bool.not_eq_true', Bool.not_eq_false', reduceCtorEq] at h)) | fail)
    refine aw_loop [1, 4, 5, 6, 7, 8, 9, 10, 11, 12, 13, 14, 15, 16, 17, 18, 19] (fun n S => ∃ (j : Nat) (out : ByteArray), n = j ∧ out.size + j < 4611686018427387904 ∧ mDig j out = mDig k.toNat { data := #[] } ∧ S = [.int .i64 j, .undef, .str ⟨#[]⟩, .str out, .undef, .undef, .undef, .undef, .undef, .undef, .undef, .undef, .undef, .undef, .undef, .undef, .undef, .undef, .undef, .undef]) k.toNat ?_ ?_
    · refine ⟨k.toNat, { data := #[] }, rfl, by simp [ByteArray.size]; omega, rfl, ?_⟩
      have hk : ((k.toNat : Nat) : Int) = k := by omega
      simp only [clr, go_sem, hk]
    · rintro n S ⟨j, out, hn, hsz, hd, rfl⟩
      by_cases hj : 0 < j
      · have hgt : decide ((j : Int) > 0) = true := by simp [hj]
        have hrem : Int.tmod (j : Int) 10 = ((j % 10 : Nat) : Int) := by
          rw [Int.tmod_eq_emod_of_nonneg (by omega)]; omega
        have hadd : IntKind.i64.wrap (48 + ((j % 10 : Nat) : Int)) = ((48 + j % 10 : Nat) : Int) := by rw [wrap_small] <;> omega
        have hcv : IntKind.u8.wrap ((48 + j % 10 : Nat) : Int) = ((48 + j % 10 : Nat) : Int) := by
          simp [IntKind.wrap, IntKind.signed, IntKind.bits]; omega
        have hquo : IntKind.i64.wrap (Int.tdiv (j : Int) 10) = ((j / 10 : Nat) : Int) := by
          rw [wrap_small] <;> (rw [Int.tdiv_eq_ediv_of_nonneg (by omega)]; omega)
        have hby : bytesOf [.int .u8 ((48 + j % 10 : Nat) : Int)] = ⟨#[UInt8.ofNat (48 + j % 10)]⟩ := rfl
        have hsz2 : (ByteArray.mk #[UInt8.ofNat (48 + j % 10)]).size + out.size ≤ 4611686018427387904 := by
          have h1 : (ByteArray.mk #[UInt8.ofNat (48 + j % 10)]).size = 1 := rfl
          rw [h1]; omega
        have hd2 : mDig (j / 10) (⟨#[UInt8.ofNat (48 + j % 10)]⟩ ++ out) = mDig k.toNat { data := #[] } := by
          rw [← hd]; conv => rhs; rw [mDig]
          rw [dif_neg (by omega)]
        repeat' (first | refine one ?_ | (refine two ?_ ?_; all_goals (intro h; try simp only [Bool.not_eq_true', Bool.not_eq_false', reduceCtorEq] at h)) | fail)
        refine ⟨j / 10, by omega, j / 10, ⟨#[UInt8.ofNat (48 + j % 10)]⟩ ++ out, rfl, ?_, hd2, ?_⟩
        · have h3 : ((⟨#[UInt8.ofNat (48 + j % 10)]⟩ : ByteArray) ++ out).size = 1 + out.size := by rw [ByteArray.size_append]; rfl
          omega
        · simp only [clr, go_sem]
      · have hgt : decide ((j : Int) > 0) = false := by simp; omega
        have hsz3 : (ByteArray.mk #[109]).size + out.size ≤ 4611686018427387904 := by
          have h1 : (ByteArray.mk #[109]).size = 1 := rfl
          rw [h1]; omega
        repeat' (first | refine one ?_ | (refine two ?_ ?_; all_goals (intro h; try simp only [Bool.not_eq_true', Bool.not_eq_false', reduceCtorEq] at h)) | fail)
        (simp only [go_sem, *])
        have hj0 : j = 0 := by omega
        subst hj0
        rw [mDig, dif_pos rfl] at hd
        simp [mText, h0, hd]
noncomputable abbrev ic_laws_markText := Con.mk (P := P) (f := 88) Try.call88 @c_laws_markText
attribute [instance] ic_laws_markText
end Go.Proofs.Ytlgdijjkegeccaa
