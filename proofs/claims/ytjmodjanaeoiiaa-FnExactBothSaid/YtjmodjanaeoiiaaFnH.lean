/- Contracts: the marks that a law sets. -/
import Derived.Test.YtjmodjanaeoiiaaFnF
import Derived.Test.YtjmodjanaeoiiaaBvAq
namespace Go.Proofs.Ytjmodjanaeoiiaa
open Go Go.RowKit Go.Bv
set_option linter.unusedSimpArgs false
set_option linter.unusedVariables false
set_option maxRecDepth 4000

/-- The digits of k ahead of a text. -/
def mDig (k : Nat) (out : ByteArray) : ByteArray :=
  if h : k = 0 then out else mDig (k / 10) (⟨#[UInt8.ofNat (48 + k % 10)]⟩ ++ out)
termination_by k
decreasing_by omega
def mText (k : Int) : ByteArray := if k ≤ 0 then { data := #[109, 48] } else { data := #[109] } ++ mDig k.toNat { data := #[] }
theorem c_laws_markText (k : Int) (h1 : k < 4611686018427387904) : Sound P 59 [.int .i64 k] (.str (mText k)) := by
  by_cases h0 : k ≤ 0
  · have hg : decide (k ≤ 0) = true := by simp [h0]
    refine sound_body hT Go.Proofs.Try.func59 rfl ?_
    rw [Go.Proofs.Try.results59, Go.Proofs.Try.ntmps59]
    simp only [frame, List.length_cons, List.length_nil, List.replicate, List.cons_append, List.nil_append, Nat.reduceAdd, Nat.reduceSub]
    repeat' (first
    | with_reducible first | refine aw_seq ?_ | refine aw_block ?_ | refine aw_skip ?_ | refine aw_exit ?_
    | with_reducible first | refine aw_ret ?_ | refine thenA_n ?_ | refine thenA_r ?_ | refine thenA_x ?_ | refine blockA_n ?_ | refine blockA_r ?_ | refine blockA_e ?_ | refine blockA_x (by decide) ?_ | refine ends_r ?_ | refine ends_n ?_ | refine ends_rM ?_ | refine ends_nM ?_ | refine aw_reg ?_
    | (with_reducible refine aw_any hT ?_ ?_; · decide +kernel)
    | with_reducible refine al_nil ?_
    | (with_reducible apply aw_cond
       · simp only [go_sem, *]; with_reducible rfl
       all_goals (intro h; try simp only [Bool.not_eq_true', Bool.not_eq_false', reduceCtorEq] at h))
    | (with_reducible apply al_bslice hT
       · exact gchk_none rfl
       · rfl
       · simp only [go_sem]; first | done | with_reducible rfl
       · simp only [go_sem]
       · simp only [go_sem]; first | done | with_reducible rfl
       · simp only [go_sem]
       · simp only [go_sem]; first | done | omega
       · simp only [go_sem, *]; with_reducible rfl
       · simp only [go_sem, *]; with_reducible rfl
       · simp only [go_sem]
       · simp only [go_sem]; with_reducible rfl)
    | (with_reducible apply al_bstr hT
       · exact gchk_none rfl
       · rfl
       · simp only [go_sem]; first | done | with_reducible rfl
       · simp only [go_sem]; first | done | with_reducible rfl
       · simp only [go_sem]; first | done | with_reducible rfl
       · simp only [go_sem, *]; with_reducible rfl
       · simp only [go_sem, *]; with_reducible rfl
       · simp only [go_sem, *]
       · simp only [go_sem]; with_reducible rfl)
    | (with_reducible apply al_s hT true
       · first | exact gchk_none rfl | simp only [go_sem, *]
       · simp only [go_sem, *]; first | done | with_reducible rfl)
    | (with_reducible apply al_q hT
       · first | exact gchk_none rfl | simp only [go_sem, *]
       · simp only [go_sem, *]; first | done | with_reducible rfl
       · simp only [go_sem]; with_reducible rfl)
    | (with_reducible apply al_skip
       · simp only [go_sem, *]
       · simp only [go_sem]; with_reducible rfl)
    | ((with_reducible first | apply al_caseT rfl | apply al_caseF rfl)
       · simp only [go_sem, *]; with_reducible rfl
       · simp only [go_sem]; with_reducible rfl
       all_goals (intro h; try simp only [Bool.not_eq_true', Bool.not_eq_false'] at h)
       fail_if_success (with_reducible have hh : (true = true ∨ false = false) := by first | exact Or.inl h | exact Or.inr h))
    )
    (simp only [go_sem, *])
    first | done | simp [mText, h0]
  · have hg : decide (k ≤ 0) = false := by simp; omega
    refine sound_body hT Go.Proofs.Try.func59 rfl ?_
    rw [Go.Proofs.Try.results59, Go.Proofs.Try.ntmps59]
    simp only [frame, List.length_cons, List.length_nil, List.replicate, List.cons_append, List.nil_append, Nat.reduceAdd, Nat.reduceSub]
    repeat' (first
    | with_reducible first | refine aw_seq ?_ | refine aw_block ?_ | refine aw_skip ?_ | refine aw_exit ?_
    | with_reducible first | refine aw_ret ?_ | refine thenA_n ?_ | refine thenA_r ?_ | refine thenA_x ?_ | refine blockA_n ?_ | refine blockA_r ?_ | refine blockA_e ?_ | refine blockA_x (by decide) ?_ | refine ends_r ?_ | refine ends_n ?_ | refine ends_rM ?_ | refine ends_nM ?_ | refine aw_reg ?_
    | (with_reducible refine aw_any hT ?_ ?_; · decide +kernel)
    | with_reducible refine al_nil ?_
    | (with_reducible apply aw_cond
       · simp only [go_sem, *]; with_reducible rfl
       all_goals (intro h; try simp only [Bool.not_eq_true', Bool.not_eq_false', reduceCtorEq] at h))
    | (with_reducible apply al_bslice hT
       · exact gchk_none rfl
       · rfl
       · simp only [go_sem]; first | done | with_reducible rfl
       · simp only [go_sem]
       · simp only [go_sem]; first | done | with_reducible rfl
       · simp only [go_sem]
       · simp only [go_sem]; first | done | omega
       · simp only [go_sem, *]; with_reducible rfl
       · simp only [go_sem, *]; with_reducible rfl
       · simp only [go_sem]
       · simp only [go_sem]; with_reducible rfl)
    | (with_reducible apply al_bstr hT
       · exact gchk_none rfl
       · rfl
       · simp only [go_sem]; first | done | with_reducible rfl
       · simp only [go_sem]; first | done | with_reducible rfl
       · simp only [go_sem]; first | done | with_reducible rfl
       · simp only [go_sem, *]; with_reducible rfl
       · simp only [go_sem, *]; with_reducible rfl
       · simp only [go_sem, *]
       · simp only [go_sem]; with_reducible rfl)
    | (with_reducible apply al_s hT true
       · first | exact gchk_none rfl | simp only [go_sem, *]
       · simp only [go_sem, *]; first | done | with_reducible rfl)
    | (with_reducible apply al_q hT
       · first | exact gchk_none rfl | simp only [go_sem, *]
       · simp only [go_sem, *]; first | done | with_reducible rfl
       · simp only [go_sem]; with_reducible rfl)
    | (with_reducible apply al_skip
       · simp only [go_sem, *]
       · simp only [go_sem]; with_reducible rfl)
    | ((with_reducible first | apply al_caseT rfl | apply al_caseF rfl)
       · simp only [go_sem, *]; with_reducible rfl
       · simp only [go_sem]; with_reducible rfl
       all_goals (intro h; try simp only [Bool.not_eq_true', Bool.not_eq_false'] at h)
       fail_if_success (with_reducible have hh : (true = true ∨ false = false) := by first | exact Or.inl h | exact Or.inr h))
    )
    refine aw_loop [1, 4, 5, 6, 7, 8, 9, 10, 11, 12, 13, 14, 15, 16, 17, 18, 19] (fun n S => ∃ (j : Nat) (out : ByteArray), n = j ∧ out.size + j < 4611686018427387904 ∧ mDig j out = mDig k.toNat { data := #[] } ∧ S = [.int .i64 j, .undef, .str ⟨#[]⟩, .str out, .undef, .undef, .undef, .undef, .undef, .undef, .undef, .undef, .undef, .undef, .undef, .undef, .undef, .undef, .undef, .undef]) k.toNat ?_ ?_
    · refine ⟨k.toNat, { data := #[] }, rfl, by simp [ByteArray.size]; omega, rfl, ?_⟩
      have hk : ((k.toNat : Nat) : Int) = k := by omega
      simp only [clr, go_sem, hk]
    · rintro n S ⟨j, out, hn, hsz, hd, rfl⟩
      by_cases hj : 0 < j
      · have hgt : decide ((j : Int) > 0) = true := by simp [hj]
        have hrem : Int.tmod (j : Int) 10 = ((j % 10 : Nat) : Int) := by
          rw [Int.tmod_eq_emod_of_nonneg (by omega)]; omega
        have hadd : IntKind.i64.wrap (48 + ((j % 10 : Nat) : Int)) = ((48 + j % 10 : Nat) : Int) := by rw [wrap_small] <;> omega
        have hcv : IntKind.u8.wrap ((48 + j % 10 : Nat) : Int) = ((48 + j % 10 : Nat) : Int) := by
          simp [IntKind.wrap, IntKind.signed, IntKind.bits]; omega
        have hquo : IntKind.i64.wrap (Int.tdiv (j : Int) 10) = ((j / 10 : Nat) : Int) := by
          rw [wrap_small] <;> (rw [Int.tdiv_eq_ediv_of_nonneg (by omega)]; omega)
        have hby : bytesOf [.int .u8 ((48 + j % 10 : Nat) : Int)] = ⟨#[UInt8.ofNat (48 + j % 10)]⟩ := rfl
        have hsz2 : (ByteArray.mk #[UInt8.ofNat (48 + j % 10)]).size + out.size ≤ 4611686018427387904 := by
          have h1 : (ByteArray.mk #[UInt8.ofNat (48 + j % 10)]).size = 1 := rfl
          rw [h1]; omega
        have hd2 : mDig (j / 10) (⟨#[UInt8.ofNat (48 + j % 10)]⟩ ++ out) = mDig k.toNat { data := #[] } := by
          rw [← hd]; conv => rhs; rw [mDig]
          rw [dif_neg (by omega)]
        repeat' (first
        | with_reducible first | refine aw_seq ?_ | refine aw_block ?_ | refine aw_skip ?_ | refine aw_exit ?_
        | with_reducible first | refine aw_ret ?_ | refine thenA_n ?_ | refine thenA_r ?_ | refine thenA_x ?_ | refine blockA_n ?_ | refine blockA_r ?_ | refine blockA_e ?_ | refine blockA_x (by decide) ?_ | refine ends_r ?_ | refine ends_n ?_ | refine ends_rM ?_ | refine ends_nM ?_ | refine aw_reg ?_
        | (with_reducible refine aw_any hT ?_ ?_; · decide +kernel)
        | with_reducible refine al_nil ?_
        | (with_reducible apply aw_cond
           · simp only [go_sem, *]; with_reducible rfl
           all_goals (intro h; try simp only [Bool.not_eq_true', Bool.not_eq_false', reduceCtorEq] at h))
        | (with_reducible apply al_bslice hT
           · exact gchk_none rfl
           · rfl
           · simp only [go_sem]; first | done | with_reducible rfl
           · simp only [go_sem]
           · simp only [go_sem]; first | done | with_reducible rfl
           · simp only [go_sem]
           · simp only [go_sem]; first | done | omega
           · simp only [go_sem, *]; with_reducible rfl
           · simp only [go_sem, *]; with_reducible rfl
           · simp only [go_sem]
           · simp only [go_sem]; with_reducible rfl)
        | (with_reducible apply al_bstr hT
           · exact gchk_none rfl
           · rfl
           · simp only [go_sem]; first | done | with_reducible rfl
           · simp only [go_sem]; first | done | with_reducible rfl
           · simp only [go_sem]; first | done | with_reducible rfl
           · simp only [go_sem, *]; with_reducible rfl
           · simp only [go_sem, *]; with_reducible rfl
           · simp only [go_sem, *]
           · simp only [go_sem]; with_reducible rfl)
        | (with_reducible apply al_s hT true
           · first | exact gchk_none rfl | simp only [go_sem, *]
           · simp only [go_sem, *]; first | done | with_reducible rfl)
        | (with_reducible apply al_q hT
           · first | exact gchk_none rfl | simp only [go_sem, *]
           · simp only [go_sem, *]; first | done | with_reducible rfl
           · simp only [go_sem]; with_reducible rfl)
        | (with_reducible apply al_skip
           · simp only [go_sem, *]
           · simp only [go_sem]; with_reducible rfl)
        | ((with_reducible first | apply al_caseT rfl | apply al_caseF rfl)
           · simp only [go_sem, *]; with_reducible rfl
           · simp only [go_sem]; with_reducible rfl
           all_goals (intro h; try simp only [Bool.not_eq_true', Bool.not_eq_false'] at h)
           fail_if_success (with_reducible have hh : (true = true ∨ false = false) := by first | exact Or.inl h | exact Or.inr h))
        )
        refine ⟨j / 10, by omega, j / 10, ⟨#[UInt8.ofNat (48 + j % 10)]⟩ ++ out, rfl, ?_, hd2, ?_⟩
        · have h3 : ((⟨#[UInt8.ofNat (48 + j % 10)]⟩ : ByteArray) ++ out).size = 1 + out.size := by rw [ByteArray.size_append]; rfl
          omega
        · simp only [clr, go_sem]
      · have hgt : decide ((j : Int) > 0) = false := by simp; omega
        have hsz3 : (ByteArray.mk #[109]).size + out.size ≤ 4611686018427387904 := by
          have h1 : (ByteArray.mk #[109]).size = 1 := rfl
          rw [h1]; omega
        repeat' (first
        | with_reducible first | refine aw_seq ?_ | refine aw_block ?_ | refine aw_skip ?_ | refine aw_exit ?_
        | with_reducible first | refine aw_ret ?_ | refine thenA_n ?_ | refine thenA_r ?_ | refine thenA_x ?_ | refine blockA_n ?_ | refine blockA_r ?_ | refine blockA_e ?_ | refine blockA_x (by decide) ?_ | refine ends_r ?_ | refine ends_n ?_ | refine ends_rM ?_ | refine ends_nM ?_ | refine aw_reg ?_
        | (with_reducible refine aw_any hT ?_ ?_; · decide +kernel)
        | with_reducible refine al_nil ?_
        | (with_reducible apply aw_cond
           · simp only [go_sem, *]; with_reducible rfl
           all_goals (intro h; try simp only [Bool.not_eq_true', Bool.not_eq_false', reduceCtorEq] at h))
        | (with_reducible apply al_bslice hT
           · exact gchk_none rfl
           · rfl
           · simp only [go_sem]; first | done | with_reducible rfl
           · simp only [go_sem]
           · simp only [go_sem]; first | done | with_reducible rfl
           · simp only [go_sem]
           · simp only [go_sem]; first | done | omega
           · simp only [go_sem, *]; with_reducible rfl
           · simp only [go_sem, *]; with_reducible rfl
           · simp only [go_sem]
           · simp only [go_sem]; with_reducible rfl)
        | (with_reducible apply al_bstr hT
           · exact gchk_none rfl
           · rfl
           · simp only [go_sem]; first | done | with_reducible rfl
           · simp only [go_sem]; first | done | with_reducible rfl
           · simp only [go_sem]; first | done | with_reducible rfl
           · simp only [go_sem, *]; with_reducible rfl
           · simp only [go_sem, *]; with_reducible rfl
           · simp only [go_sem, *]
           · simp only [go_sem]; with_reducible rfl)
        | (with_reducible apply al_s hT true
           · first | exact gchk_none rfl | simp only [go_sem, *]
           · simp only [go_sem, *]; first | done | with_reducible rfl)
        | (with_reducible apply al_q hT
           · first | exact gchk_none rfl | simp only [go_sem, *]
           · simp only [go_sem, *]; first | done | with_reducible rfl
           · simp only [go_sem]; with_reducible rfl)
        | (with_reducible apply al_skip
           · simp only [go_sem, *]
           · simp only [go_sem]; with_reducible rfl)
        | ((with_reducible first | apply al_caseT rfl | apply al_caseF rfl)
           · simp only [go_sem, *]; with_reducible rfl
           · simp only [go_sem]; with_reducible rfl
           all_goals (intro h; try simp only [Bool.not_eq_true', Bool.not_eq_false'] at h)
           fail_if_success (with_reducible have hh : (true = true ∨ false = false) := by first | exact Or.inl h | exact Or.inr h))
        )
        (simp only [go_sem, *])
        have hj0 : j = 0 := by omega
        subst hj0
        rw [mDig, dif_pos rfl] at hd
        simp [mText, h0, hd]

/-- The mark of a term, and of n terms. -/
def mkT (k : Int) : TermV := ⟨k, k + 1, mText (k + 2)⟩
def mkTs : Nat → Int → List TermV
  | 0, _ => []
  | n + 1, k => mkT k :: mkTs n (k + 3)
theorem mkTs_len : ∀ (n : Nat) (k : Int), (mkTs n k).length = n
  | 0, _ => rfl
  | n + 1, k => by simp [mkTs, mkTs_len n]
theorem mkTs_succ : ∀ (n : Nat) (k : Int), mkTs (n + 1) k = mkTs n k ++ [mkT (k + 3 * n)]
  | 0, k => by simp [mkTs]
  | n + 1, k => by
    rw [mkTs, mkTs_succ n (k + 3)]
    conv => rhs; rw [mkTs]
    simp only [List.cons_append]
    congr 4; omega
def markL (f : List TermV) (i : Nat) (k : Int) : List AV := (mkTs i k ++ f.drop i).map encT
theorem markL_len {f : List TermV} {i : Nat} {k : Int} (h : i ≤ f.length) : (markL f i k).length = f.length := by
  simp [markL, mkTs_len]; omega
theorem markL_at {f : List TermV} {i : Nat} {k : Int} {t : TermV} (h : f[i]? = some t) : (markL f i k)[i]? = some (encT t) := by
  have hi := (List.getElem?_eq_some_iff.1 h).1
  unfold markL
  rw [List.getElem?_map, List.getElem?_append_right (by rw [mkTs_len]; omega), mkTs_len, Nat.sub_self, List.getElem?_drop]
  simp [h]
theorem markL_set {f : List TermV} {i : Nat} {k : Int} (h : i < f.length) : (markL f i k).set i (encT (mkT (k + 3 * i))) = markL f (i + 1) k := by
  unfold markL
  rw [mkTs_succ, List.drop_eq_getElem_cons h, List.map_append, List.set_append_right _ _ (by simp [mkTs_len])]
  simp only [List.length_map, mkTs_len, Nat.sub_self, List.map_append, List.map_cons, List.map_nil, List.set_cons_zero, List.append_assoc, List.cons_append, List.nil_append]
-- LENT m_laws_markTermS 0
theorem m_laws_markTermS (f : List TermV) (k : Int) (hf : f.length ≤ 2097152) (h0 : 0 ≤ k) (h1 : k ≤ 1073741824) :
    SoundM P 18 [.lst true 3 (f.map encT), .int .i64 k] 0 (.int .i64 (k + 3 * f.length)) (.lst true 3 ((mkTs f.length k).map encT)) := by
  have hpl := plAs_encT (mkTs f.length k)
  refine sound_bodyM hT Go.Proofs.Try.func18 rfl (by decide +kernel) (by simp) ?hpv ?_
  case hpv => simp only [plA, plAs, Bool.and_self, Bool.and_true, Bool.true_and, *]
  rw [Go.Proofs.Try.results18, Go.Proofs.Try.ntmps18]
  simp only [frame, List.length_cons, List.length_nil, List.replicate, List.cons_append, List.nil_append, Nat.reduceAdd, Nat.reduceSub]
  clear hpl
  repeat' (first
  | with_reducible first | refine aw_seq ?_ | refine aw_block ?_ | refine aw_skip ?_ | refine aw_exit ?_
  | with_reducible first | refine aw_ret ?_ | refine thenA_n ?_ | refine thenA_r ?_ | refine thenA_x ?_ | refine blockA_n ?_ | refine blockA_r ?_ | refine blockA_e ?_ | refine blockA_x (by decide) ?_ | refine ends_r ?_ | refine ends_n ?_ | refine ends_rM ?_ | refine ends_nM ?_ | refine aw_reg ?_
  | (with_reducible refine aw_any hT ?_ ?_; · decide +kernel)
  | with_reducible refine al_nil ?_
  | (with_reducible apply aw_cond
     · simp only [go_sem, *]; with_reducible rfl
     all_goals (intro h; try simp only [Bool.not_eq_true', Bool.not_eq_false', reduceCtorEq] at h))
  | (with_reducible apply al_call (f := 59)
     · first | exact gchk_none rfl | simp only [go_sem, *]
     · rfl
     · exact Go.Proofs.Try.call59
     · simp only [go_sem, List.length_map, *]; with_reducible rfl
     · simp only [go_sem, *]
     · (with_reducible apply c_laws_markText) <;> assumption
     · simp only [go_sem]; with_reducible rfl)
  | (with_reducible apply al_snap (f := 59)
     · first | exact gchk_none rfl | simp only [go_sem, *]
     · rfl
     · exact Go.Proofs.Try.call59
     · simp only [go_sem, List.length_map, *]; with_reducible rfl
     · simp only [go_sem, List.length_map, *]; with_reducible rfl
     · (with_reducible apply c_laws_markText) <;> assumption
     · simp only [go_sem, *]
     · simp only [go_sem]; with_reducible rfl)
  | (with_reducible apply al_s hT true
     · first | exact gchk_none rfl | simp only [go_sem, *]
     · simp only [go_sem, List.length_map, *]; first | done | with_reducible rfl)
  | (with_reducible apply al_q hT
     · first | exact gchk_none rfl | simp only [go_sem, *]
     · simp only [go_sem, List.length_map, *]; first | done | with_reducible rfl
     · simp only [go_sem]; with_reducible rfl)
  | (with_reducible apply al_skip
     · simp only [go_sem, *]
     · simp only [go_sem]; with_reducible rfl)
  | ((with_reducible first | apply al_caseT rfl | apply al_caseF rfl)
     · simp only [go_sem, *]; with_reducible rfl
     · simp only [go_sem]; with_reducible rfl
     all_goals (intro h; try simp only [Bool.not_eq_true', Bool.not_eq_false'] at h)
     fail_if_success (with_reducible have hh : (true = true ∨ false = false) := by first | exact Or.inl h | exact Or.inr h))
  )
  refine aw_loop [2, 3, 6, 7, 8, 9, 10, 11, 12, 13, 14, 15, 16, 17, 18, 19, 20, 21, 22, 23, 24, 25, 26, 27, 28, 29, 30, 31, 32, 33, 34] (fun n S => ∃ i : Nat, n = f.length - i ∧ i ≤ f.length ∧ S = [.lst true 3 (markL f i k), .int .i64 (k + 3 * i), .undef, .undef, .int .i64 0, .int .i64 i, .undef, .undef, .undef, .undef, .undef, .undef, .undef, .undef, .undef, .undef, .undef, .undef, .undef, .undef, .undef, .undef, .undef, .undef, .undef, .undef, .undef, .undef, .undef, .undef, .undef, .undef, .undef, .undef, .undef]) f.length ?_ ?_
  · refine ⟨0, by simp, by omega, ?_⟩
    simp only [clr, go_sem]
    first | done | simp [markL, mkTs]
  · rintro n S ⟨i, hn, hi, rfl⟩
    have hlen := markL_len (k := k) hi
    have hwi : IntKind.i64.wrap ((i : Int) + 1) = ((i + 1 : Nat) : Int) := by rw [wrap_small] <;> omega
    by_cases hlt : i < f.length
    · have hd : (i : Int) < (f.length : Int) := by omega
      obtain ⟨t, hti⟩ : ∃ t, f[i]? = some t := ⟨f[i], by simp [hlt]⟩
      have hat : (markL f i k)[i]? = some (.agg [.int .i64 t.op, .int .i64 t.num, .str t.text]) := markL_at hti
      have hset : (markL f i k).set i (.agg [.int .i64 (k + 3 * i), .int .i64 (k + 3 * i + 1), .str (mText (k + 3 * i + 2))]) = markL f (i + 1) k := markL_set hlt
      have hil : i < (markL f i k).length := by omega
      have s1 : ∀ v, ((markL f i k).set i v)[i]? = some v := fun v => List.getElem?_set_self hil
      have hk1 : IntKind.i64.wrap (k + 3 * i + 1) = k + 3 * i + 1 := by rw [wrap_small] <;> omega
      have hk2 : IntKind.i64.wrap (k + 3 * i + 1 + 1) = k + 3 * i + 2 := by rw [wrap_small] <;> omega
      have hk3 : IntKind.i64.wrap (k + 3 * i + 2 + 1) = k + 3 * ((i + 1 : Nat) : Int) := by rw [wrap_small] <;> omega
      have hb : k + 3 * i + 2 < 4611686018427387904 := by omega
      generalize hM : markL f i k = M at *
      repeat' (first
      | with_reducible first | refine aw_seq ?_ | refine aw_block ?_ | refine aw_skip ?_ | refine aw_exit ?_
      | with_reducible first | refine aw_ret ?_ | refine thenA_n ?_ | refine thenA_r ?_ | refine thenA_x ?_ | refine blockA_n ?_ | refine blockA_r ?_ | refine blockA_e ?_ | refine blockA_x (by decide) ?_ | refine ends_r ?_ | refine ends_n ?_ | refine ends_rM ?_ | refine ends_nM ?_ | refine aw_reg ?_
      | (with_reducible refine aw_any hT ?_ ?_; · decide +kernel)
      | with_reducible refine al_nil ?_
      | (with_reducible apply aw_cond
         · simp only [go_sem, *]; with_reducible rfl
         all_goals (intro h; try simp only [Bool.not_eq_true', Bool.not_eq_false', reduceCtorEq] at h))
      | (with_reducible apply al_call (f := 59)
         · first | exact gchk_none rfl | simp only [go_sem, *]
         · rfl
         · exact Go.Proofs.Try.call59
         · simp only [go_sem, List.length_map, List.set_set, *]; with_reducible rfl
         · simp only [go_sem, *]
         · (with_reducible apply c_laws_markText) <;> assumption
         · simp only [go_sem]; with_reducible rfl)
      | (with_reducible apply al_snap (f := 59)
         · first | exact gchk_none rfl | simp only [go_sem, *]
         · rfl
         · exact Go.Proofs.Try.call59
         · simp only [go_sem, List.length_map, List.set_set, *]; with_reducible rfl
         · simp only [go_sem, List.length_map, List.set_set, *]; with_reducible rfl
         · (with_reducible apply c_laws_markText) <;> assumption
         · simp only [go_sem, *]
         · simp only [go_sem]; with_reducible rfl)
      | (with_reducible apply al_s hT true
         · first | exact gchk_none rfl | simp only [go_sem, *]
         · simp only [go_sem, List.length_map, List.set_set, *]; first | done | with_reducible rfl)
      | (with_reducible apply al_q hT
         · first | exact gchk_none rfl | simp only [go_sem, *]
         · simp only [go_sem, List.length_map, List.set_set, *]; first | done | with_reducible rfl
         · simp only [go_sem]; with_reducible rfl)
      | (with_reducible apply al_skip
         · simp only [go_sem, *]
         · simp only [go_sem]; with_reducible rfl)
      | ((with_reducible first | apply al_caseT rfl | apply al_caseF rfl)
         · simp only [go_sem, *]; with_reducible rfl
         · simp only [go_sem]; with_reducible rfl
         all_goals (intro h; try simp only [Bool.not_eq_true', Bool.not_eq_false'] at h)
         fail_if_success (with_reducible have hh : (true = true ∨ false = false) := by first | exact Or.inl h | exact Or.inr h))
      )
      refine ⟨f.length - (i + 1), by omega, i + 1, rfl, by omega, ?_⟩
      simp only [clr, go_sem]
    · have hd : decide ((i : Int) < (f.length : Int)) = false := by simp; omega
      repeat' (first
      | with_reducible first | refine aw_seq ?_ | refine aw_block ?_ | refine aw_skip ?_ | refine aw_exit ?_
      | with_reducible first | refine aw_ret ?_ | refine thenA_n ?_ | refine thenA_r ?_ | refine thenA_x ?_ | refine blockA_n ?_ | refine blockA_r ?_ | refine blockA_e ?_ | refine blockA_x (by decide) ?_ | refine ends_r ?_ | refine ends_n ?_ | refine ends_rM ?_ | refine ends_nM ?_ | refine aw_reg ?_
      | (with_reducible refine aw_any hT ?_ ?_; · decide +kernel)
      | with_reducible refine al_nil ?_
      | (with_reducible apply aw_cond
         · simp only [go_sem, *]; with_reducible rfl
         all_goals (intro h; try simp only [Bool.not_eq_true', Bool.not_eq_false', reduceCtorEq] at h))
      | (with_reducible apply al_call (f := 59)
         · first | exact gchk_none rfl | simp only [go_sem, *]
         · rfl
         · exact Go.Proofs.Try.call59
         · simp only [go_sem, List.length_map, *]; with_reducible rfl
         · simp only [go_sem, *]
         · (with_reducible apply c_laws_markText) <;> assumption
         · simp only [go_sem]; with_reducible rfl)
      | (with_reducible apply al_snap (f := 59)
         · first | exact gchk_none rfl | simp only [go_sem, *]
         · rfl
         · exact Go.Proofs.Try.call59
         · simp only [go_sem, List.length_map, *]; with_reducible rfl
         · simp only [go_sem, List.length_map, *]; with_reducible rfl
         · (with_reducible apply c_laws_markText) <;> assumption
         · simp only [go_sem, *]
         · simp only [go_sem]; with_reducible rfl)
      | (with_reducible apply al_s hT true
         · first | exact gchk_none rfl | simp only [go_sem, *]
         · simp only [go_sem, List.length_map, *]; first | done | with_reducible rfl)
      | (with_reducible apply al_q hT
         · first | exact gchk_none rfl | simp only [go_sem, *]
         · simp only [go_sem, List.length_map, *]; first | done | with_reducible rfl
         · simp only [go_sem]; with_reducible rfl)
      | (with_reducible apply al_skip
         · simp only [go_sem, *]
         · simp only [go_sem]; with_reducible rfl)
      | ((with_reducible first | apply al_caseT rfl | apply al_caseF rfl)
         · simp only [go_sem, *]; with_reducible rfl
         · simp only [go_sem]; with_reducible rfl
         all_goals (intro h; try simp only [Bool.not_eq_true', Bool.not_eq_false'] at h)
         fail_if_success (with_reducible have hh : (true = true ∨ false = false) := by first | exact Or.inl h | exact Or.inr h))
      )
      have hil : i = f.length := by omega
      have hall : markL f f.length k = (mkTs f.length k).map encT := by simp [markL]
      (simp only [go_sem, *])
/-- Is the mark of n terms there? What follows it, or -1. -/
def heldT : List TermV → Int → Int
  | [], k => k
  | t :: f, k => if t.op ≠ k then -1 else if t.num ≠ k + 1 then -1 else if sameS t.text (mText (k + 2)) = false then -1 else heldT f (k + 3)
theorem heldT_mk : ∀ (n : Nat) (k : Int), heldT (mkTs n k) k = k + 3 * n
  | 0, k => by simp [mkTs, heldT]
  | n + 1, k => by
    have hs : sameS (mText (k + 2)) (mText (k + 2)) = true := by simp [sameS]
    rw [mkTs, heldT]
    simp only [mkT, ne_eq, not_true, if_false, hs, Bool.true_eq_false]
    rw [heldT_mk n (k + 3)]; omega
theorem c_laws_heldTermS {s : Nat} (f : List TermV) (k : Int) (hf : f.length ≤ 2097152) (h0 : 0 ≤ k) (h1 : k ≤ 1073741824) :
    Sound P 19 [.lst false s (f.map encT), .int .i64 k] (.int .i64 (heldT f k)) := by
  refine sound_body hT Go.Proofs.Try.func19 rfl ?_
  rw [Go.Proofs.Try.results19, Go.Proofs.Try.ntmps19]
  simp only [frame, List.length_cons, List.length_nil, List.replicate, List.cons_append, List.nil_append, Nat.reduceAdd, Nat.reduceSub]
  repeat' (first
  | with_reducible first | refine aw_seq ?_ | refine aw_block ?_ | refine aw_skip ?_ | refine aw_exit ?_
  | with_reducible first | refine aw_ret ?_ | refine thenA_n ?_ | refine thenA_r ?_ | refine thenA_x ?_ | refine blockA_n ?_ | refine blockA_r ?_ | refine blockA_e ?_ | refine blockA_x (by decide) ?_ | refine ends_r ?_ | refine ends_n ?_ | refine ends_rM ?_ | refine ends_nM ?_ | refine aw_reg ?_
  | (with_reducible apply aw_anyW (id := 10) [[], [], [0, 1], [0, 1, 2], [0, 1, 2, 3], [], [5], [0, 1, 2, 3, 4, 5, 6]] [[(30, _)], [(31, _)], [(32, _)], [(33, _)], [(34, _)], [(35, _)], [(36, _)], [(37, _)]] hT
     · decide +kernel
     · repeat' (first
         | exact steps_nil
         | (with_reducible refine steps_cons (fun D hk hd => ?_) ?_
            · try simp only [go_sem, allT, Option.getD_some] at hd
              simp only [fillW, putIfs, putIf, cond_true, also, Nat.reduceBEq, cond_false, Nat.reduceAdd, hd, hk]
              first
              | exact as_q hT (gchk_none rfl) (by simp only [go_sem, List.length_map, *]; with_reducible rfl) (by simp only [go_sem]; with_reducible rfl)
              | exact as_call (f := 59) (gchk_none rfl) rfl Go.Proofs.Try.call59 (by simp only [go_sem, List.length_map, *]; with_reducible rfl) (by simp only [go_sem, *]) (by (with_reducible apply c_laws_markText) <;> assumption) (by simp only [go_sem]; with_reducible rfl)
              | exact as_s hT true (gchk_none rfl) (by simp only [go_sem, List.length_map, *]; with_reducible rfl)))
     · rfl
     simp only [fillW, putIfs, putIf, cond_true])
  | (with_reducible refine aw_any hT ?_ ?_; · decide +kernel)
  | with_reducible refine al_nil ?_
  | (with_reducible apply aw_cond
     · simp only [go_sem, *]; with_reducible rfl
     all_goals (intro h; try simp only [Bool.not_eq_true', Bool.not_eq_false', reduceCtorEq] at h))
  | (with_reducible apply al_call (f := 59)
     · first | exact gchk_none rfl | simp only [go_sem, *]
     · rfl
     · exact Go.Proofs.Try.call59
     · simp only [go_sem, List.length_map, *]; with_reducible rfl
     · simp only [go_sem, *]
     · (with_reducible apply c_laws_markText) <;> assumption
     · simp only [go_sem]; with_reducible rfl)
  | (with_reducible apply al_snap (f := 59)
     · first | exact gchk_none rfl | simp only [go_sem, *]
     · rfl
     · exact Go.Proofs.Try.call59
     · simp only [go_sem, List.length_map, *]; with_reducible rfl
     · simp only [go_sem, List.length_map, *]; with_reducible rfl
     · (with_reducible apply c_laws_markText) <;> assumption
     · simp only [go_sem, *]
     · simp only [go_sem]; with_reducible rfl)
  | (with_reducible apply al_s hT true
     · first | exact gchk_none rfl | simp only [go_sem, *]
     · simp only [go_sem, List.length_map, *]; first | done | with_reducible rfl)
  | (with_reducible apply al_q hT
     · first | exact gchk_none rfl | simp only [go_sem, *]
     · simp only [go_sem, List.length_map, *]; first | done | with_reducible rfl
     · simp only [go_sem]; with_reducible rfl)
  | (with_reducible apply al_skip
     · simp only [go_sem, *]
     · simp only [go_sem]; with_reducible rfl)
  | ((with_reducible first | apply al_caseT rfl | apply al_caseF rfl)
     · simp only [go_sem, *]; with_reducible rfl
     · simp only [go_sem]; with_reducible rfl
     all_goals (intro h; try simp only [Bool.not_eq_true', Bool.not_eq_false'] at h)
     fail_if_success (with_reducible have hh : (true = true ∨ false = false) := by first | exact Or.inl h | exact Or.inr h))
  )
  refine aw_loop [2, 3, 6, 7, 8, 9, 10, 11, 12, 13, 14, 15, 16, 17, 18, 19, 20, 21, 22, 23, 24, 25, 26, 27, 28, 29, 30, 31, 32, 33, 34, 35, 36, 37, 38, 39, 40] (fun n S => ∃ i : Nat, n = f.length - i ∧ i ≤ f.length ∧ heldT (f.drop i) (k + 3 * i) = heldT f k ∧ S = [.lst false s (f.map encT), .int .i64 (k + 3 * i), .undef, .undef, .int .i64 0, .int .i64 i, .undef, .undef, .undef, .undef, .undef, .undef, .undef, .undef, .undef, .undef, .undef, .undef, .undef, .undef, .undef, .undef, .undef, .undef, .undef, .undef, .undef, .undef, .undef, .undef, .undef, .undef, .undef, .undef, .undef, .undef, .undef, .undef, .undef, .undef, .undef]) f.length ?_ ?_
  · refine ⟨0, by simp, by omega, by simp, ?_⟩
    simp only [clr, go_sem]
    first | done | simp
  · rintro n S ⟨i, hn, hi, hh, rfl⟩
    have hwi : IntKind.i64.wrap ((i : Int) + 1) = ((i + 1 : Nat) : Int) := by rw [wrap_small] <;> omega
    by_cases hlt : i < f.length
    · have hd : decide ((i : Int) < (f.length : Int)) = true := by simp [hlt]
      obtain ⟨t, hti⟩ : ∃ t, f[i]? = some t := ⟨f[i], by simp [hlt]⟩
      have hdr : f.drop i = t :: f.drop (i + 1) := by
        rw [List.drop_eq_getElem_cons hlt]; congr 1; simpa [hlt] using hti
      rw [hdr, heldT] at hh
      have hk1 : IntKind.i64.wrap (k + 3 * i + 1) = k + 3 * i + 1 := by rw [wrap_small] <;> omega
      have hk2 : IntKind.i64.wrap (k + 3 * i + 1 + 1) = k + 3 * i + 2 := by rw [wrap_small] <;> omega
      have hk3 : IntKind.i64.wrap (k + 3 * i + 2 + 1) = k + 3 * i + 3 := by rw [wrap_small] <;> omega
      have hb : k + 3 * i + 2 < 4611686018427387904 := by omega
      have hss : (t.text.toList == (mText (k + 3 * i + 2)).toList) = sameS t.text (mText (k + 3 * i + 2)) := rfl
      clear hdr
      repeat' (first
      | with_reducible first | refine aw_seq ?_ | refine aw_block ?_ | refine aw_skip ?_ | refine aw_exit ?_
      | with_reducible first | refine aw_ret ?_ | refine thenA_n ?_ | refine thenA_r ?_ | refine thenA_x ?_ | refine blockA_n ?_ | refine blockA_r ?_ | refine blockA_e ?_ | refine blockA_x (by decide) ?_ | refine ends_r ?_ | refine ends_n ?_ | refine ends_rM ?_ | refine ends_nM ?_ | refine aw_reg ?_
      | (with_reducible apply aw_anyW (id := 10) [[], [], [0, 1], [0, 1, 2], [0, 1, 2, 3], [], [5], [0, 1, 2, 3, 4, 5, 6]] [[(30, _)], [(31, _)], [(32, _)], [(33, _)], [(34, _)], [(35, _)], [(36, _)], [(37, _)]] hT
         · decide +kernel
         · repeat' (first
             | exact steps_nil
             | (with_reducible refine steps_cons (fun D hk hd => ?_) ?_
                · try simp only [go_sem, allT, Option.getD_some] at hd
                  simp only [fillW, putIfs, putIf, cond_true, also, Nat.reduceBEq, cond_false, Nat.reduceAdd, hd, hk]
                  first
                  | exact as_q hT (gchk_none rfl) (by simp only [go_sem, List.length_map, encT, *]; with_reducible rfl) (by simp only [go_sem]; with_reducible rfl)
                  | exact as_call (f := 59) (gchk_none rfl) rfl Go.Proofs.Try.call59 (by simp only [go_sem, List.length_map, encT, *]; with_reducible rfl) (by simp only [go_sem, *]) (by (with_reducible apply c_laws_markText) <;> assumption) (by simp only [go_sem]; with_reducible rfl)
                  | exact as_s hT true (gchk_none rfl) (by simp only [go_sem, List.length_map, encT, *]; with_reducible rfl)))
         · rfl
         simp only [fillW, putIfs, putIf, cond_true])
      | (with_reducible refine aw_any hT ?_ ?_; · decide +kernel)
      | with_reducible refine al_nil ?_
      | (with_reducible apply aw_cond
         · simp only [go_sem, *]; with_reducible rfl
         all_goals (intro h; try simp only [Bool.not_eq_true', Bool.not_eq_false', reduceCtorEq] at h))
      | (with_reducible apply al_call (f := 59)
         · first | exact gchk_none rfl | simp only [go_sem, *]
         · rfl
         · exact Go.Proofs.Try.call59
         · simp only [go_sem, List.length_map, encT, *]; with_reducible rfl
         · simp only [go_sem, *]
         · (with_reducible apply c_laws_markText) <;> assumption
         · simp only [go_sem]; with_reducible rfl)
      | (with_reducible apply al_snap (f := 59)
         · first | exact gchk_none rfl | simp only [go_sem, *]
         · rfl
         · exact Go.Proofs.Try.call59
         · simp only [go_sem, List.length_map, encT, *]; with_reducible rfl
         · simp only [go_sem, List.length_map, encT, *]; with_reducible rfl
         · (with_reducible apply c_laws_markText) <;> assumption
         · simp only [go_sem, *]
         · simp only [go_sem]; with_reducible rfl)
      | (with_reducible apply al_s hT true
         · first | exact gchk_none rfl | simp only [go_sem, *]
         · simp only [go_sem, List.length_map, encT, *]; first | done | with_reducible rfl)
      | (with_reducible apply al_q hT
         · first | exact gchk_none rfl | simp only [go_sem, *]
         · simp only [go_sem, List.length_map, encT, *]; first | done | with_reducible rfl
         · simp only [go_sem]; with_reducible rfl)
      | (with_reducible apply al_skip
         · simp only [go_sem, *]
         · simp only [go_sem]; with_reducible rfl)
      | ((with_reducible first | apply al_caseT rfl | apply al_caseF rfl)
         · simp only [go_sem, *]; with_reducible rfl
         · simp only [go_sem]; with_reducible rfl
         all_goals (intro h; try simp only [Bool.not_eq_true', Bool.not_eq_false'] at h)
         fail_if_success (with_reducible have hh : (true = true ∨ false = false) := by first | exact Or.inl h | exact Or.inr h))
      )
      · (simp only [go_sem, *])
        first | done | simp_all
      · (simp only [go_sem, *])
        first | done | simp_all
      · (simp only [go_sem, *])
        first | done | simp_all
      · have e : k + 3 * ((i + 1 : Nat) : Int) = k + 3 * i + 3 := by omega
        refine ⟨f.length - (i + 1), by omega, i + 1, rfl, by omega, ?_, ?_⟩
        · rw [e]; simp_all
        · simp only [clr, go_sem, e]
    · have hd : decide ((i : Int) < (f.length : Int)) = false := by simp; omega
      repeat' (first
      | with_reducible first | refine aw_seq ?_ | refine aw_block ?_ | refine aw_skip ?_ | refine aw_exit ?_
      | with_reducible first | refine aw_ret ?_ | refine thenA_n ?_ | refine thenA_r ?_ | refine thenA_x ?_ | refine blockA_n ?_ | refine blockA_r ?_ | refine blockA_e ?_ | refine blockA_x (by decide) ?_ | refine ends_r ?_ | refine ends_n ?_ | refine ends_rM ?_ | refine ends_nM ?_ | refine aw_reg ?_
      | (with_reducible apply aw_anyW (id := 10) [[], [], [0, 1], [0, 1, 2], [0, 1, 2, 3], [], [5], [0, 1, 2, 3, 4, 5, 6]] [[(30, _)], [(31, _)], [(32, _)], [(33, _)], [(34, _)], [(35, _)], [(36, _)], [(37, _)]] hT
         · decide +kernel
         · repeat' (first
             | exact steps_nil
             | (with_reducible refine steps_cons (fun D hk hd => ?_) ?_
                · try simp only [go_sem, allT, Option.getD_some] at hd
                  simp only [fillW, putIfs, putIf, cond_true, also, Nat.reduceBEq, cond_false, Nat.reduceAdd, hd, hk]
                  first
                  | exact as_q hT (gchk_none rfl) (by simp only [go_sem, List.length_map, encT, *]; with_reducible rfl) (by simp only [go_sem]; with_reducible rfl)
                  | exact as_call (f := 59) (gchk_none rfl) rfl Go.Proofs.Try.call59 (by simp only [go_sem, List.length_map, encT, *]; with_reducible rfl) (by simp only [go_sem, *]) (by (with_reducible apply c_laws_markText) <;> assumption) (by simp only [go_sem]; with_reducible rfl)
                  | exact as_s hT true (gchk_none rfl) (by simp only [go_sem, List.length_map, encT, *]; with_reducible rfl)))
         · rfl
         simp only [fillW, putIfs, putIf, cond_true])
      | (with_reducible refine aw_any hT ?_ ?_; · decide +kernel)
      | with_reducible refine al_nil ?_
      | (with_reducible apply aw_cond
         · simp only [go_sem, *]; with_reducible rfl
         all_goals (intro h; try simp only [Bool.not_eq_true', Bool.not_eq_false', reduceCtorEq] at h))
      | (with_reducible apply al_call (f := 59)
         · first | exact gchk_none rfl | simp only [go_sem, *]
         · rfl
         · exact Go.Proofs.Try.call59
         · simp only [go_sem, List.length_map, encT, *]; with_reducible rfl
         · simp only [go_sem, *]
         · (with_reducible apply c_laws_markText) <;> assumption
         · simp only [go_sem]; with_reducible rfl)
      | (with_reducible apply al_snap (f := 59)
         · first | exact gchk_none rfl | simp only [go_sem, *]
         · rfl
         · exact Go.Proofs.Try.call59
         · simp only [go_sem, List.length_map, encT, *]; with_reducible rfl
         · simp only [go_sem, List.length_map, encT, *]; with_reducible rfl
         · (with_reducible apply c_laws_markText) <;> assumption
         · simp only [go_sem, *]
         · simp only [go_sem]; with_reducible rfl)
      | (with_reducible apply al_s hT true
         · first | exact gchk_none rfl | simp only [go_sem, *]
         · simp only [go_sem, List.length_map, encT, *]; first | done | with_reducible rfl)
      | (with_reducible apply al_q hT
         · first | exact gchk_none rfl | simp only [go_sem, *]
         · simp only [go_sem, List.length_map, encT, *]; first | done | with_reducible rfl
         · simp only [go_sem]; with_reducible rfl)
      | (with_reducible apply al_skip
         · simp only [go_sem, *]
         · simp only [go_sem]; with_reducible rfl)
      | ((with_reducible first | apply al_caseT rfl | apply al_caseF rfl)
         · simp only [go_sem, *]; with_reducible rfl
         · simp only [go_sem]; with_reducible rfl
         all_goals (intro h; try simp only [Bool.not_eq_true', Bool.not_eq_false'] at h)
         fail_if_success (with_reducible have hh : (true = true ∨ false = false) := by first | exact Or.inl h | exact Or.inr h))
      )
      (simp only [go_sem, *])
      rw [List.drop_of_length_le (by omega)] at hh
      rw [← hh]; simp [heldT]
end Go.Proofs.Ytjmodjanaeoiiaa
