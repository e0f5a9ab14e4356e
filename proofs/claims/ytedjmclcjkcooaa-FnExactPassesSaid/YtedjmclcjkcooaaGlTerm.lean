/- Contracts of the law's helpers: Term. -/
import Derived.Test.YtedjmclcjkcooaaFnV
import Derived.Test.YtedjmclcjkcooaaGlText
namespace Go.Proofs.Ytedjmclcjkcooaa
open Go Go.RowKit Go.Bv
set_option linter.unusedSimpArgs false
set_option linter.unusedVariables false
set_option maxRecDepth 4000
set_option maxHeartbeats 1000000
structure TermV where
  op : Int
  num : Int
  text : ByteArray
def encT (x : TermV) : AV := .agg [.int .i64 x.op, .int .i64 x.num, .str x.text]
theorem encT_eq (t : TermV) : encT t = .agg [.int .i64 t.op, .int .i64 t.num, .str t.text] := rfl
def TermV.fits (t : TermV) : Prop := t.text.size < 4611686018427387904
def wTerm (x : TermV) : Nat := x.text.size
def okTerm (x : TermV) : Prop := x.text.size < 4611686018427387904
def meTerm (x : TermV) (k : Int) : TermV := { op := k, num := k + 1, text := mText (k + 1 + 1) }
def mwTerm (x : TermV) : Nat := 3
theorem mw10Term (x : TermV) : mwTerm x ≤ 10 * (1 + wTerm x) := by
  skip
  simp only [mwTerm, wTerm]; omega
def wTermS (f : List TermV) : Nat := f.length + sumL wTerm f
def okTermS (f : List TermV) : Prop := f.length < 4611686018427387904 ∧ ∀ x ∈ f, okTerm x
def mkTermS (f : List TermV) (k : Int) : List TermV := mkL meTerm mwTerm f k
def mwTermS (f : List TermV) : Nat := sumL mwTerm f
theorem mw10TermS (f : List TermV) : mwTermS f ≤ 10 * wTermS f := sum10 mw10Term f
theorem ashs_Term (f : List TermV) : ashs (f.map encT) = f.map encT := ashs_map (g := encT) (h := encT) (fun x => rfl) f
theorem plAs_Term (f : List TermV) : plAs (f.map encT) = true := plAs_map (g := encT) (fun x => rfl) f
theorem alen_Term (f : List TermV) : ((f.map encT).all fun u => alen u == 3) = true := alen_map (g := encT) (fun x => rfl) f
theorem noShs_Term (f : List TermV) : noShs (f.map encT) = true := noShs_map (g := encT) (fun x => rfl) f
theorem leafAs_Term (f : List TermV) : leafAs (f.map encT) = true := leafAs_map (g := encT) (fun x => rfl) f
attribute [go_sem] ashs_Term plAs_Term alen_Term noShs_Term leafAs_Term
def zeroTerm : AV := .agg [.int .i64 0, .int .i64 0, .str { data := #[] }]
theorem c_laws_szTerm (x : TermV) (left : Int) {u : AV} (hu : u = encT x) (hb : okTerm x) (h0 : decide (left < 0) = false) (h1 : left ≤ 1048576) : Sound P 31 [u, .int .i64 left] (.int .i64 (szW (wTerm x) left)) := by
  subst hu
  have hp : 0 ≤ left := by simpa using h0
  have hb0 := hb
  simp only [okTerm] at hb0
  have hw0 : IntKind.i64.wrap (left - (x.text.size : Int)) = left - (x.text.size : Int) := by rw [wrap_small] <;> omega
  refine sound_body hT Try.func31 rfl ?_
  rw [Try.results31, Try.ntmps31]
  simp only [frame, List.length_cons, List.length_nil, List.replicate, List.cons_append, List.nil_append, Nat.reduceAdd, Nat.reduceSub]
  repeat' (first
  | with_reducible first | refine aw_seq ?_ | refine aw_skip ?_
  | with_reducible first | refine aw_ret ?_ | refine thenA_n ?_ | refine thenA_r ?_ | refine ends_r ?_ | refine aw_reg ?_
  | with_reducible refine al_nil ?_
  | (with_reducible apply aw_cond
     · simp only [go_sem, *]; with_reducible rfl
     all_goals (intro h; try simp only [Bool.not_eq_true', Bool.not_eq_false', reduceCtorEq] at h))
  | (with_reducible apply al_s hT true
     · first | exact gchk_none rfl | simp only [go_sem, *]
     · simp only [go_sem, encT, *]; first | done | with_reducible rfl)
  )
  all_goals (
    (simp only [go_sem, *])
    first
    | done
    | (have hT : wTerm x = x.text.size := rfl
       simp only [decide_eq_true_eq, decide_eq_false_iff_not, Option.some.injEq, AV.int.injEq, true_and] at *
       rcases szW_cases (wTerm x) left with ⟨_, _⟩ | ⟨_, _⟩ <;> omega))
theorem c_laws_toTerm (x : TermV) {u : AV} (hu : u = encT x) (hw : wTerm x ≤ 4194304) : Sound P 35 [u] (encT x) := by
  subst hu
  clear hw
  refine sound_body hT Try.func35 rfl ?_
  rw [Try.results35, Try.ntmps35]
  simp only [frame, List.length_cons, List.length_nil, List.replicate, List.cons_append, List.nil_append, Nat.reduceAdd, Nat.reduceSub]
  repeat' (first
  | with_reducible refine aw_seq ?_
  | with_reducible first | refine aw_ret ?_ | refine thenA_n ?_ | refine ends_r ?_ | refine aw_reg ?_
  | with_reducible refine al_nil ?_
  | (with_reducible apply al_s hT true
     · first | exact gchk_none rfl | simp only [go_sem, *]
     · simp only [go_sem, encT, *]; first | done | with_reducible rfl)
  )
  all_goals ((simp only [go_sem, *]); first | done | rfl)
theorem c_laws_eqTerm (x : TermV) {u v : AV} (hu : u = encT x) (hv : v = encT x) (hw : wTerm x ≤ 4194304) : Sound P 39 [u, v] (.bool true) := by
  subst hu hv
  clear hw
  refine sound_body hT Try.func39 rfl ?_
  rw [Try.results39, Try.ntmps39]
  simp only [frame, List.length_cons, List.length_nil, List.replicate, List.cons_append, List.nil_append, Nat.reduceAdd, Nat.reduceSub]
  repeat' (first
  | with_reducible first | refine aw_seq ?_ | refine aw_skip ?_
  | with_reducible first | refine aw_ret ?_ | refine thenA_n ?_ | refine ends_r ?_ | refine aw_reg ?_
  | with_reducible refine al_nil ?_
  | (with_reducible apply aw_cond
     · simp only [go_sem, *]; with_reducible rfl
     all_goals (intro h; try simp only [Bool.not_eq_true', Bool.not_eq_false', reduceCtorEq] at h))
  | (with_reducible apply al_s hT true
     · first | exact gchk_none rfl | simp only [go_sem, *]
     · simp only [go_sem, encT, *]; first | done | with_reducible rfl)
  )
  all_goals (simp only [go_sem, *])
theorem c_laws_szTermS (f : List TermV) (left : Int) (hb : okTermS f) (h0 : decide (left < 0) = false) (h1 : left ≤ 1048576) : Sound P 7 [.lst false 3 (f.map encT), .int .i64 left] (.int .i64 (szW (wTermS f) left)) := by
  have hl := hb.1
  have hp : 0 ≤ left := by simpa using h0
  have hw : IntKind.i64.wrap (left - f.length) = left - f.length := by rw [wrap_small] <;> omega
  refine sound_body hT Try.func7 rfl ?_
  rw [Try.results7, Try.ntmps7]
  simp only [frame, List.length_cons, List.length_nil, List.replicate, List.cons_append, List.nil_append, Nat.reduceAdd, Nat.reduceSub]
  repeat' (first
  | with_reducible first | refine aw_seq ?_ | refine aw_block ?_ | refine aw_skip ?_ | refine aw_exit ?_
  | with_reducible first | refine aw_ret ?_ | refine thenA_n ?_ | refine thenA_r ?_ | refine thenA_x ?_ | refine blockA_n ?_ | refine blockA_r ?_ | refine blockA_e ?_ | refine ends_r ?_ | refine aw_reg ?_
  | with_reducible refine al_nil ?_
  | (with_reducible apply aw_cond
     · simp only [go_sem, *]; with_reducible rfl
     all_goals (intro h; try simp only [Bool.not_eq_true', Bool.not_eq_false', reduceCtorEq] at h))
  | (with_reducible apply al_s hT true
     · first | exact gchk_none rfl | simp only [go_sem, *]
     · simp only [go_sem, *]; first | done | with_reducible rfl)
  )
  · (simp only [go_sem, *])
    have hall : szW (wTermS f) left = -1 := by rw [szW, if_neg]; simp only [wTermS]; simp only [decide_eq_true_eq] at h; omega
    first | done | rw [hall]
  have hlen : decide (left - f.length < 0) = false := h
  have hlen2 : (f.length : Int) ≤ left := by simp only [decide_eq_false_iff_not] at h; omega
  clear h
  refine aw_loop [2, 3, 6, 7, 8, 9, 10, 11, 12, 13, 14, 15, 16, 17, 18, 19, 20, 21, 22, 23, 24, 25, 26] (fun n S => ∃ i : Nat, n = f.length - i ∧ i ≤ f.length ∧ 0 ≤ left - f.length - (sumL wTerm (f.take i) : Nat) ∧ S = [.lst false 3 (f.map encT), .int .i64 (left - f.length - (sumL wTerm (f.take i) : Nat)), .undef, .undef, .int .i64 0, .int .i64 i, .undef, .undef, .undef, .undef, .undef, .undef, .undef, .undef, .undef, .undef, .undef, .undef, .undef, .undef, .undef, .undef, .undef, .undef, .undef, .undef, .undef]) f.length ?_ ?_
  · refine ⟨0, by simp, by omega, by simp [sumL]; omega, ?_⟩
    simp only [clr, go_sem]
    first | done | simp [sumL]
  · rintro n S ⟨i, hn, hi, hpos, rfl⟩
    have hwi : IntKind.i64.wrap ((i : Int) + 1) = ((i + 1 : Nat) : Int) := by rw [wrap_small] <;> omega
    by_cases hlt : i < f.length
    · have hd : decide ((i : Int) < (f.length : Int)) = true := by simp [hlt]
      obtain ⟨x, hx⟩ : ∃ x, f[i]? = some x := ⟨f[i], by simp [hlt]⟩
      have hok := hb.2 x (List.mem_of_getElem? hx)
      have hs := sumL_succ wTerm hx
      have hle := sumL_le wTerm f (i + 1)
      have hg0 : decide (left - f.length - (sumL wTerm (f.take i) : Nat) < 0) = false := by simp; omega
      have hg1 : left - f.length - (sumL wTerm (f.take i) : Nat) ≤ 1048576 := by omega
      clear hb
      by_cases hf : (wTerm x : Int) ≤ left - f.length - (sumL wTerm (f.take i) : Nat)
      · have he : szW (wTerm x) (left - f.length - (sumL wTerm (f.take i) : Nat)) = left - f.length - (sumL wTerm (f.take (i + 1)) : Nat) := by rw [szW, if_pos hf]; omega
        have hgp : 0 ≤ left - f.length - (sumL wTerm (f.take (i + 1)) : Nat) := by omega
        have hgn : decide (left - f.length - (sumL wTerm (f.take (i + 1)) : Nat) < 0) = false := by simp; omega
        clear hs hle
        repeat' (first
        | with_reducible first | refine aw_seq ?_ | refine aw_block ?_ | refine aw_skip ?_ | refine aw_exit ?_
        | with_reducible first | refine aw_ret ?_ | refine thenA_n ?_ | refine thenA_r ?_ | refine thenA_x ?_ | refine blockA_n ?_ | refine blockA_r ?_ | refine blockA_e ?_ | refine ends_r ?_ | refine aw_reg ?_
        | with_reducible refine al_nil ?_
        | (with_reducible apply aw_cond
           · simp only [go_sem, *]; with_reducible rfl
           all_goals (intro h; try simp only [Bool.not_eq_true', Bool.not_eq_false', reduceCtorEq] at h))
        | (with_reducible apply al_call (f := 31)
           · first | exact gchk_none rfl | simp only [go_sem, *]
           · rfl
           · exact Try.call31
           · simp only [go_sem, encT, *]; with_reducible rfl
           · simp only [go_sem, *]
           · first | assumption | ((with_reducible apply c_laws_szTerm) <;> first | assumption | rfl)
           · simp only [go_sem]; with_reducible rfl)
        | (with_reducible apply al_s hT true
           · first | exact gchk_none rfl | simp only [go_sem, *]
           · simp only [go_sem, encT, *]; first | done | with_reducible rfl)
        )
        refine ⟨f.length - (i + 1), by omega, i + 1, rfl, by omega, hgp, ?_⟩
        simp only [clr, go_sem]
      · have he : szW (wTerm x) (left - f.length - (sumL wTerm (f.take i) : Nat)) = -1 := by rw [szW, if_neg hf]
        have hgn : decide ((-1 : Int) < 0) = true := by decide
        have hall : szW (wTermS f) left = -1 := by rw [szW, if_neg]; simp only [wTermS]; omega
        repeat' (first
        | with_reducible first | refine aw_seq ?_ | refine aw_block ?_ | refine aw_skip ?_ | refine aw_exit ?_
        | with_reducible first | refine aw_ret ?_ | refine thenA_n ?_ | refine thenA_r ?_ | refine thenA_x ?_ | refine blockA_n ?_ | refine blockA_r ?_ | refine blockA_e ?_ | refine ends_r ?_ | refine aw_reg ?_
        | with_reducible refine al_nil ?_
        | (with_reducible apply aw_cond
           · simp only [go_sem, *]; with_reducible rfl
           all_goals (intro h; try simp only [Bool.not_eq_true', Bool.not_eq_false', reduceCtorEq] at h))
        | (with_reducible apply al_call (f := 31)
           · first | exact gchk_none rfl | simp only [go_sem, *]
           · rfl
           · exact Try.call31
           · simp only [go_sem, encT, *]; with_reducible rfl
           · simp only [go_sem, *]
           · first | assumption | ((with_reducible apply c_laws_szTerm) <;> first | assumption | rfl)
           · simp only [go_sem]; with_reducible rfl)
        | (with_reducible apply al_s hT true
           · first | exact gchk_none rfl | simp only [go_sem, *]
           · simp only [go_sem, encT, *]; first | done | with_reducible rfl)
        )
        all_goals (simp only [go_sem, *])
    · have hd : decide ((i : Int) < (f.length : Int)) = false := by simp; omega
      have ht : f.take i = f := List.take_of_length_le (by omega)
      rw [ht] at hpos ⊢
      have hall : szW (wTermS f) left = left - f.length - (sumL wTerm f : Nat) := by rw [szW, if_pos] <;> simp only [wTermS] <;> omega
      repeat' (first
      | with_reducible first | refine aw_seq ?_ | refine aw_block ?_ | refine aw_skip ?_ | refine aw_exit ?_
      | with_reducible first | refine aw_ret ?_ | refine thenA_n ?_ | refine thenA_r ?_ | refine thenA_x ?_ | refine blockA_n ?_ | refine blockA_r ?_ | refine blockA_e ?_ | refine ends_r ?_ | refine aw_reg ?_
      | with_reducible refine al_nil ?_
      | (with_reducible apply aw_cond
         · simp only [go_sem, *]; with_reducible rfl
         all_goals (intro h; try simp only [Bool.not_eq_true', Bool.not_eq_false', reduceCtorEq] at h))
      | (with_reducible apply al_s hT true
         · first | exact gchk_none rfl | simp only [go_sem, *]
         · simp only [go_sem, *]; first | done | with_reducible rfl)
      )
      all_goals (simp only [go_sem, *])
theorem c_laws_toTermS (f : List TermV) (hw : wTermS f ≤ 4194304) : Sound P 10 [.lst false 3 (f.map encT)] (.lst true 3 (f.map encT)) := by
  have hl : f.length ≤ 4194304 := Nat.le_trans (Nat.le_add_right _ _) hw
  refine sound_body hT Try.func10 rfl ?_
  rw [Try.results10, Try.ntmps10]
  simp only [frame, List.length_cons, List.length_nil, List.replicate, List.cons_append, List.nil_append, Nat.reduceAdd, Nat.reduceSub]
  repeat' (first
  | with_reducible first | refine aw_seq ?_ | refine aw_block ?_ | refine aw_skip ?_ | refine aw_exit ?_
  | with_reducible first | refine aw_ret ?_ | refine thenA_n ?_ | refine thenA_x ?_ | refine blockA_n ?_ | refine blockA_e ?_ | refine ends_r ?_ | refine aw_reg ?_
  | with_reducible refine al_nil ?_
  | (with_reducible apply al_anil hT
     · exact gchk_none rfl
     · rfl
     · simp only [go_sem]; first | done | with_reducible rfl
     · simp only [go_sem]; with_reducible rfl)
  | (with_reducible apply al_make hT
     · first | exact gchk_none rfl | simp only [go_sem, *]
     · rfl
     · simp only [go_sem]; with_reducible rfl
     · simp only [go_sem]; with_reducible rfl
     · simp only [go_sem]
     · simp only [go_sem, *]; with_reducible rfl
     · simp only [go_sem, *]; with_reducible rfl
     · exact Nat.le_refl _
     · simp only [go_sem]
     · simp only [go_sem]; first | done | omega
     · unfold maxLen; first | done | omega
     · simp only [go_sem]; with_reducible rfl)
  | (with_reducible apply al_s hT true
     · first | exact gchk_none rfl | simp only [go_sem, *]
     · simp only [go_sem, *]; first | done | with_reducible rfl)
  )
  refine aw_loop [1, 5, 6, 8, 9, 10, 11, 12, 13, 14, 15, 16, 17, 18, 19, 20, 21, 22] (fun n S => ∃ i : Nat, n = f.length - i ∧ i ≤ f.length ∧ S = [.lst false 3 (f.map encT), .undef, .lst true 3 [], .ref 7 [] 0 f.length, .int .i64 i, .undef, .undef, .lst true 3 (fillL encT zeroTerm f i), .undef, .undef, .undef, .undef, .undef, .undef, .undef, .undef, .undef, .undef, .undef, .undef, .undef, .undef, .undef]) f.length ?_ ?_
  · refine ⟨0, by simp, by omega, ?_⟩
    simp only [clr, go_sem]
    first | done | simp [fillL, zeroTerm]
  · rintro n S ⟨i, hn, hi, rfl⟩
    have hwi : IntKind.i64.wrap ((i : Int) + 1) = ((i + 1 : Nat) : Int) := by rw [wrap_small] <;> omega
    by_cases hlt : i < f.length
    · have hd : (i : Int) < (f.length : Int) := by omega
      obtain ⟨x, hx⟩ : ∃ x, f[i]? = some x := ⟨f[i], by simp [hlt]⟩
      have hwx : wTerm x ≤ 4194304 := w_le wTerm hx hw
      have hfi : (fillL encT zeroTerm f i)[i]? = some (.agg [.int .i64 0, .int .i64 0, .str { data := #[] }]) := fillL_at encT zeroTerm hlt
      have hfs : (fillL encT zeroTerm f i).set i (.agg [.int .i64 x.op, .int .i64 x.num, .str x.text]) = fillL encT zeroTerm f (i + 1) := fillL_set encT zeroTerm hx
      generalize fillL encT zeroTerm f i = M at *
      clear hw
      repeat' (first
      | with_reducible first | refine aw_seq ?_ | refine aw_block ?_ | refine aw_skip ?_ | refine aw_exit ?_
      | with_reducible first | refine aw_ret ?_ | refine thenA_n ?_ | refine thenA_x ?_ | refine blockA_n ?_ | refine blockA_e ?_ | refine ends_r ?_ | refine aw_reg ?_
      | with_reducible refine al_nil ?_
      | (with_reducible apply aw_cond
         · simp only [go_sem, *]; with_reducible rfl
         all_goals (intro h; try simp only [Bool.not_eq_true', Bool.not_eq_false', reduceCtorEq] at h))
      | (with_reducible apply al_call (f := 35)
         · first | exact gchk_none rfl | simp only [go_sem, *]
         · rfl
         · exact Try.call35
         · simp only [go_sem, encT, *]; with_reducible rfl
         · simp only [go_sem, *]
         · first | assumption | ((with_reducible apply c_laws_toTerm) <;> first | assumption | rfl)
         · simp only [go_sem]; with_reducible rfl)
      | (with_reducible apply al_s hT true
         · first | exact gchk_none rfl | simp only [go_sem, *]
         · simp only [go_sem, encT, *]; first | done | with_reducible rfl)
      )
      refine ⟨f.length - (i + 1), by omega, i + 1, rfl, by omega, ?_⟩
      simp only [clr, go_sem]
    · have hd : decide ((i : Int) < (f.length : Int)) = false := by simp; omega
      have hall : fillL encT zeroTerm f i = f.map encT := fillL_all encT zeroTerm (by omega)
      rw [hall]
      clear hall
      repeat' (first
      | with_reducible first | refine aw_seq ?_ | refine aw_block ?_ | refine aw_skip ?_ | refine aw_exit ?_
      | with_reducible first | refine aw_ret ?_ | refine thenA_n ?_ | refine thenA_x ?_ | refine blockA_n ?_ | refine blockA_e ?_ | refine ends_r ?_ | refine aw_reg ?_
      | with_reducible refine al_nil ?_
      | (with_reducible apply aw_cond
         · simp only [go_sem, *]; with_reducible rfl
         all_goals (intro h; try simp only [Bool.not_eq_true', Bool.not_eq_false', reduceCtorEq] at h))
      | (with_reducible apply al_s hT true
         · first | exact gchk_none rfl | simp only [go_sem, *]
         · simp only [go_sem, *]; first | done | with_reducible rfl)
      )
      all_goals (simp only [go_sem, *])
theorem c_laws_eqTermS (f : List TermV) (hw : wTermS f ≤ 4194304) : Sound P 13 [.lst false 3 (f.map encT), .lst false 3 (f.map encT)] (.bool true) := by
  have hl : f.length ≤ 4194304 := Nat.le_trans (Nat.le_add_right _ _) hw
  refine sound_body hT Try.func13 rfl ?_
  rw [Try.results13, Try.ntmps13]
  simp only [frame, List.length_cons, List.length_nil, List.replicate, List.cons_append, List.nil_append, Nat.reduceAdd, Nat.reduceSub]
  repeat' (first
  | with_reducible first | refine aw_seq ?_ | refine aw_block ?_ | refine aw_skip ?_ | refine aw_exit ?_
  | with_reducible first | refine aw_ret ?_ | refine thenA_n ?_ | refine thenA_x ?_ | refine blockA_n ?_ | refine blockA_e ?_ | refine ends_r ?_ | refine aw_reg ?_
  | with_reducible refine al_nil ?_
  | (with_reducible apply aw_cond
     · simp only [go_sem, *]; with_reducible rfl
     all_goals (intro h; try simp only [Bool.not_eq_true', Bool.not_eq_false', reduceCtorEq] at h))
  | (with_reducible apply al_s hT true
     · first | exact gchk_none rfl | simp only [go_sem, *]
     · simp only [go_sem, *]; first | done | with_reducible rfl)
  )
  refine aw_loop [2, 3, 6, 7, 8, 9, 10, 11, 12, 13, 14, 15, 16, 17, 18, 19, 20, 21, 22, 23, 24, 25, 26] (fun n S => ∃ i : Nat, n = f.length - i ∧ i ≤ f.length ∧ S = [.lst false 3 (f.map encT), .lst false 3 (f.map encT), .undef, .undef, .bool false, .int .i64 i, .undef, .undef, .undef, .undef, .undef, .undef, .undef, .undef, .undef, .undef, .undef, .undef, .undef, .undef, .undef, .undef, .undef, .undef, .undef, .undef, .undef]) f.length ?_ ?_
  · refine ⟨0, by simp, by omega, ?_⟩
    simp only [clr, go_sem]
    first | done | rfl
  · rintro n S ⟨i, hn, hi, rfl⟩
    have hwi : IntKind.i64.wrap ((i : Int) + 1) = ((i + 1 : Nat) : Int) := by rw [wrap_small] <;> omega
    by_cases hlt : i < f.length
    · have hd : decide ((i : Int) < (f.length : Int)) = true := by simp [hlt]
      obtain ⟨x, hx⟩ : ∃ x, f[i]? = some x := ⟨f[i], by simp [hlt]⟩
      have hwx : wTerm x ≤ 4194304 := w_le wTerm hx hw
      clear hw
      repeat' (first
      | with_reducible first | refine aw_seq ?_ | refine aw_block ?_ | refine aw_skip ?_ | refine aw_exit ?_
      | with_reducible first | refine aw_ret ?_ | refine thenA_n ?_ | refine thenA_x ?_ | refine blockA_n ?_ | refine blockA_e ?_ | refine ends_r ?_ | refine aw_reg ?_
      | (with_reducible apply aw_anyS hT (id := 6) [[], [], [0, 1], [0, 1, 2], [], [], [4, 5], [4, 5, 6], [0, 1, 2, 3, 4, 5, 6, 7], [0, 1, 2, 3, 4, 5, 6, 7, 8]] [17, 18, 19, 20, 21, 22, 23, 24, 25, 26]
         · rfl
         · decide +kernel
         · decide +kernel
         · simp only [go_sem, *])
      | with_reducible refine al_nil ?_
      | (with_reducible apply aw_cond
         · simp only [go_sem, *]; with_reducible rfl
         all_goals (intro h; try simp only [Bool.not_eq_true', Bool.not_eq_false', reduceCtorEq] at h))
      | with_reducible refine ad_nil ?_
      | (with_reducible apply ad_q hT
         · first | exact gchk_none rfl | simp only [go_sem, *]
         · simp only [go_sem, encT, *]; first | done | with_reducible rfl
         · simp only [go_sem, *]
         · simp only [go_sem]; with_reducible rfl)
      | (with_reducible apply ad_call (f := 39)
         · first | exact gchk_none rfl | simp only [go_sem, *]
         · rfl
         · exact Try.call39
         · simp only [go_sem, encT, *]; with_reducible rfl
         · simp only [go_sem, *]
         · first | assumption | ((with_reducible apply c_laws_eqTerm) <;> first | assumption | rfl)
         · simp only [go_sem, *]
         · simp only [go_sem]; with_reducible rfl)
      | (with_reducible apply al_s hT true
         · first | exact gchk_none rfl | simp only [go_sem, *]
         · simp only [go_sem, encT, *]; first | done | with_reducible rfl)
      )
      refine ⟨f.length - (i + 1), by omega, i + 1, rfl, by omega, ?_⟩
      simp only [clr, go_sem]
    · have hd : decide ((i : Int) < (f.length : Int)) = false := by simp; omega
      repeat' (first
      | with_reducible first | refine aw_seq ?_ | refine aw_block ?_ | refine aw_skip ?_ | refine aw_exit ?_
      | with_reducible first | refine aw_ret ?_ | refine thenA_n ?_ | refine thenA_x ?_ | refine blockA_n ?_ | refine blockA_e ?_ | refine ends_r ?_ | refine aw_reg ?_
      | with_reducible refine al_nil ?_
      | (with_reducible apply aw_cond
         · simp only [go_sem, *]; with_reducible rfl
         all_goals (intro h; try simp only [Bool.not_eq_true', Bool.not_eq_false', reduceCtorEq] at h))
      | (with_reducible apply al_s hT true
         · first | exact gchk_none rfl | simp only [go_sem, *]
         · simp only [go_sem, *]; first | done | with_reducible rfl)
      )
      all_goals (simp only [go_sem, *])
end Go.Proofs.Ytedjmclcjkcooaa
