/- The law FnExactBoth returns true of any two filters. -/
import Derived.Test.YtjmodjanaeoiiaaFnL
namespace Go.Proofs.Ytjmodjanaeoiiaa
open Go Go.RowKit Go.Bv
set_option linter.unusedSimpArgs false
set_option linter.unusedVariables false
set_option maxRecDepth 4000

/-- What Both answers with. -/
def bothO (f g : List TermV) : List TermV := if bothB f g then bothL f g else []
theorem bothV_eq (f g : List TermV) : bothV f g = .tup [.lst true 3 ((bothO f g).map encT), .bool (bothB f g)] := by
  unfold bothV bothO; split <;> simp
theorem bothO_len (f g : List TermV) : (bothO f g).length ≤ 12 := by
  unfold bothO
  split
  · rename_i h
    unfold bothB at h
    simp only [Bool.and_eq_true, decide_eq_true_eq] at h
    exact h.2
  · simp

set_option maxHeartbeats 4000000 in
theorem c_laws_FnExactBoth {s s' : Nat} (f g : List TermV) (hl : f.length < 4611686018427387904) (hl' : g.length < 4611686018427387904) (hs : ∀ t ∈ f, t.text.size < 4611686018427387904) (hs' : ∀ t ∈ g, t.text.size < 4611686018427387904) :
    Sound P 5 [.lst false s (f.map encT), .lst false s' (g.map encT)] (.bool true) := by
  have h0 : (0 : Int) ≤ 1048576 := by omega
  have h1 : (1048576 : Int) ≤ 1048576 := by omega
  by_cases hneg : szAll f 1048576 < 0
  · have hg : decide (szAll f 1048576 < 0) = true := by simp [hneg]
    refine sound_body hT Go.Proofs.Try.func5 rfl ?_
    rw [Go.Proofs.Try.results5, Go.Proofs.Try.ntmps5]
    simp only [frame, List.length_cons, List.length_nil, List.replicate, List.cons_append, List.nil_append, Nat.reduceAdd, Nat.reduceSub]
    repeat' (first
    | with_reducible first | refine aw_seq ?_ | refine aw_block ?_ | refine aw_skip ?_ | refine aw_exit ?_
    | with_reducible first | refine aw_ret ?_ | refine thenA_n ?_ | refine thenA_r ?_ | refine thenA_x ?_ | refine blockA_n ?_ | refine blockA_r ?_ | refine blockA_e ?_ | refine blockA_x (by decide) ?_ | refine ends_r ?_ | refine ends_n ?_ | refine ends_rM ?_ | refine ends_nM ?_ | refine aw_reg ?_
    | (with_reducible refine aw_any hT ?_ ?_; · decide +kernel)
    | with_reducible refine al_nil ?_
    | (with_reducible apply aw_cond
       · simp only [go_sem, *]; with_reducible rfl
       all_goals (intro h; try simp only [Bool.not_eq_true', Bool.not_eq_false', reduceCtorEq] at h))
    | (with_reducible apply al_call (f := 11)
       · first | exact gchk_none rfl | simp only [go_sem, *]
       · rfl
       · exact Go.Proofs.Try.call11
       · simp only [go_sem, *]; with_reducible rfl
       · simp only [go_sem, *]
       · (with_reducible apply c_laws_szTermS) <;> assumption
       · simp only [go_sem]; with_reducible rfl)
    | (with_reducible apply al_snap (f := 11)
       · first | exact gchk_none rfl | simp only [go_sem, *]
       · rfl
       · exact Go.Proofs.Try.call11
       · simp only [go_sem, *]; with_reducible rfl
       · simp only [go_sem, *]; with_reducible rfl
       · (with_reducible apply c_laws_szTermS) <;> assumption
       · simp only [go_sem, *]
       · simp only [go_sem]; with_reducible rfl)
    | (with_reducible apply al_call (f := 13)
       · first | exact gchk_none rfl | simp only [go_sem, *]
       · rfl
       · exact Go.Proofs.Try.call13
       · simp only [go_sem, *]; with_reducible rfl
       · simp only [go_sem, *]
       · (with_reducible apply c_laws_toTermS) <;> assumption
       · simp only [go_sem]; with_reducible rfl)
    | (with_reducible apply al_snap (f := 13)
       · first | exact gchk_none rfl | simp only [go_sem, *]
       · rfl
       · exact Go.Proofs.Try.call13
       · simp only [go_sem, *]; with_reducible rfl
       · simp only [go_sem, *]; with_reducible rfl
       · (with_reducible apply c_laws_toTermS) <;> assumption
       · simp only [go_sem, *]
       · simp only [go_sem]; with_reducible rfl)
    | (with_reducible apply al_call (f := 20)
       · first | exact gchk_none rfl | simp only [go_sem, *]
       · rfl
       · exact Go.Proofs.Try.call20
       · simp only [go_sem, *]; with_reducible rfl
       · simp only [go_sem, *]
       · (with_reducible apply c_spec_Both) <;> assumption
       · simp only [go_sem]; with_reducible rfl)
    | (with_reducible apply al_snap (f := 20)
       · first | exact gchk_none rfl | simp only [go_sem, *]
       · rfl
       · exact Go.Proofs.Try.call20
       · simp only [go_sem, *]; with_reducible rfl
       · simp only [go_sem, *]; with_reducible rfl
       · (with_reducible apply c_spec_Both) <;> assumption
       · simp only [go_sem, *]
       · simp only [go_sem]; with_reducible rfl)
    | (with_reducible apply al_call (f := 21)
       · first | exact gchk_none rfl | simp only [go_sem, *]
       · rfl
       · exact Go.Proofs.Try.call21
       · simp only [go_sem, *]; with_reducible rfl
       · simp only [go_sem, *]
       · (with_reducible apply c_impl_Both) <;> assumption
       · simp only [go_sem]; with_reducible rfl)
    | (with_reducible apply al_snap (f := 21)
       · first | exact gchk_none rfl | simp only [go_sem, *]
       · rfl
       · exact Go.Proofs.Try.call21
       · simp only [go_sem, *]; with_reducible rfl
       · simp only [go_sem, *]; with_reducible rfl
       · (with_reducible apply c_impl_Both) <;> assumption
       · simp only [go_sem, *]
       · simp only [go_sem]; with_reducible rfl)
    | (with_reducible apply al_call (f := 15)
       · first | exact gchk_none rfl | simp only [go_sem, *]
       · rfl
       · exact Go.Proofs.Try.call15
       · simp only [go_sem, *]; with_reducible rfl
       · simp only [go_sem, *]
       · (with_reducible apply c_laws_eqTermS) <;> assumption
       · simp only [go_sem]; with_reducible rfl)
    | (with_reducible apply al_snap (f := 15)
       · first | exact gchk_none rfl | simp only [go_sem, *]
       · rfl
       · exact Go.Proofs.Try.call15
       · simp only [go_sem, *]; with_reducible rfl
       · simp only [go_sem, *]; with_reducible rfl
       · (with_reducible apply c_laws_eqTermS) <;> assumption
       · simp only [go_sem, *]
       · simp only [go_sem]; with_reducible rfl)
    | (with_reducible apply al_call (f := 18)
       · first | exact gchk_none rfl | simp only [go_sem, *]
       · rfl
       · exact Go.Proofs.Try.call18
       · simp only [go_sem, *]; with_reducible rfl
       · simp only [go_sem, *]
       · (with_reducible apply c_laws_markTermS) <;> assumption
       · simp only [go_sem]; with_reducible rfl)
    | (with_reducible apply al_snap (f := 18)
       · first | exact gchk_none rfl | simp only [go_sem, *]
       · rfl
       · exact Go.Proofs.Try.call18
       · simp only [go_sem, *]; with_reducible rfl
       · simp only [go_sem, *]; with_reducible rfl
       · (with_reducible apply c_laws_markTermS) <;> assumption
       · simp only [go_sem, *]
       · simp only [go_sem]; with_reducible rfl)
    | (with_reducible apply al_call (f := 19)
       · first | exact gchk_none rfl | simp only [go_sem, *]
       · rfl
       · exact Go.Proofs.Try.call19
       · simp only [go_sem, *]; with_reducible rfl
       · simp only [go_sem, *]
       · (with_reducible apply c_laws_heldTermS) <;> assumption
       · simp only [go_sem]; with_reducible rfl)
    | (with_reducible apply al_snap (f := 19)
       · first | exact gchk_none rfl | simp only [go_sem, *]
       · rfl
       · exact Go.Proofs.Try.call19
       · simp only [go_sem, *]; with_reducible rfl
       · simp only [go_sem, *]; with_reducible rfl
       · (with_reducible apply c_laws_heldTermS) <;> assumption
       · simp only [go_sem, *]
       · simp only [go_sem]; with_reducible rfl)
    | (with_reducible apply al_lendL (f := 18) 0
       · exact gchk_none rfl
       · rfl
       · exact Go.Proofs.Try.call18
       · simp only [go_sem, *]; with_reducible rfl
       · simp only [go_sem]; with_reducible rfl
       · simp only [go_sem]; with_reducible rfl
       · simp only [go_sem, *]
       · simp only [go_sem, *]; with_reducible rfl
       · simp only [go_sem, *]
       · simp only [go_sem, *]
       · simp only [go_sem]
         (with_reducible apply m_laws_markTermS) <;> assumption
       · simp only [go_sem, *]
       · simp only [go_sem]; with_reducible rfl)
    | (with_reducible apply al_movetup
       · exact gchk_none rfl
       · rfl
       · simp only [go_sem, *]; with_reducible rfl
       · simp only [go_sem]; with_reducible rfl)
    | (with_reducible apply al_s hT true
       · first | exact gchk_none rfl | simp only [go_sem, *]
       · simp only [go_sem, *]; first | done | with_reducible rfl)
    | (with_reducible apply al_q hT
       · first | exact gchk_none rfl | simp only [go_sem, *]
       · simp only [go_sem, *]; first | done | with_reducible rfl
       · simp only [go_sem]; with_reducible rfl)
    | (with_reducible apply al_skip
       · simp only [go_sem, *]
       · simp only [go_sem]; with_reducible rfl)
    | ((with_reducible first | apply al_caseT rfl | apply al_caseF rfl)
       · simp only [go_sem, *]; with_reducible rfl
       · simp only [go_sem]; with_reducible rfl
       all_goals (intro h; try simp only [Bool.not_eq_true', Bool.not_eq_false'] at h)
       fail_if_success (with_reducible have hh : (true = true ∨ false = false) := by first | exact Or.inl h | exact Or.inr h))
    )
    (simp only [go_sem, *])
  have hgf : decide (szAll f 1048576 < 0) = false := by simp; omega
  obtain ⟨hle, hlen, hsz⟩ := szAll_le (f := f) (l := 1048576) (by omega)
  have hnn : 0 ≤ szAll f 1048576 := by omega
  by_cases hneg2 : szAll g (szAll f 1048576) < 0
  · have hg : decide (szAll g (szAll f 1048576) < 0) = true := by simp [hneg2]
    refine sound_body hT Go.Proofs.Try.func5 rfl ?_
    rw [Go.Proofs.Try.results5, Go.Proofs.Try.ntmps5]
    simp only [frame, List.length_cons, List.length_nil, List.replicate, List.cons_append, List.nil_append, Nat.reduceAdd, Nat.reduceSub]
    repeat' (first
    | with_reducible first | refine aw_seq ?_ | refine aw_block ?_ | refine aw_skip ?_ | refine aw_exit ?_
    | with_reducible first | refine aw_ret ?_ | refine thenA_n ?_ | refine thenA_r ?_ | refine thenA_x ?_ | refine blockA_n ?_ | refine blockA_r ?_ | refine blockA_e ?_ | refine blockA_x (by decide) ?_ | refine ends_r ?_ | refine ends_n ?_ | refine ends_rM ?_ | refine ends_nM ?_ | refine aw_reg ?_
    | (with_reducible refine aw_any hT ?_ ?_; · decide +kernel)
    | with_reducible refine al_nil ?_
    | (with_reducible apply aw_cond
       · simp only [go_sem, *]; with_reducible rfl
       all_goals (intro h; try simp only [Bool.not_eq_true', Bool.not_eq_false', reduceCtorEq] at h))
    | (with_reducible apply al_call (f := 11)
       · first | exact gchk_none rfl | simp only [go_sem, *]
       · rfl
       · exact Go.Proofs.Try.call11
       · simp only [go_sem, *]; with_reducible rfl
       · simp only [go_sem, *]
       · (with_reducible apply c_laws_szTermS) <;> assumption
       · simp only [go_sem]; with_reducible rfl)
    | (with_reducible apply al_snap (f := 11)
       · first | exact gchk_none rfl | simp only [go_sem, *]
       · rfl
       · exact Go.Proofs.Try.call11
       · simp only [go_sem, *]; with_reducible rfl
       · simp only [go_sem, *]; with_reducible rfl
       · (with_reducible apply c_laws_szTermS) <;> assumption
       · simp only [go_sem, *]
       · simp only [go_sem]; with_reducible rfl)
    | (with_reducible apply al_call (f := 13)
       · first | exact gchk_none rfl | simp only [go_sem, *]
       · rfl
       · exact Go.Proofs.Try.call13
       · simp only [go_sem, *]; with_reducible rfl
       · simp only [go_sem, *]
       · (with_reducible apply c_laws_toTermS) <;> assumption
       · simp only [go_sem]; with_reducible rfl)
    | (with_reducible apply al_snap (f := 13)
       · first | exact gchk_none rfl | simp only [go_sem, *]
       · rfl
       · exact Go.Proofs.Try.call13
       · simp only [go_sem, *]; with_reducible rfl
       · simp only [go_sem, *]; with_reducible rfl
       · (with_reducible apply c_laws_toTermS) <;> assumption
       · simp only [go_sem, *]
       · simp only [go_sem]; with_reducible rfl)
    | (with_reducible apply al_call (f := 20)
       · first | exact gchk_none rfl | simp only [go_sem, *]
       · rfl
       · exact Go.Proofs.Try.call20
       · simp only [go_sem, *]; with_reducible rfl
       · simp only [go_sem, *]
       · (with_reducible apply c_spec_Both) <;> assumption
       · simp only [go_sem]; with_reducible rfl)
    | (with_reducible apply al_snap (f := 20)
       · first | exact gchk_none rfl | simp only [go_sem, *]
       · rfl
       · exact Go.Proofs.Try.call20
       · simp only [go_sem, *]; with_reducible rfl
       · simp only [go_sem, *]; with_reducible rfl
       · (with_reducible apply c_spec_Both) <;> assumption
       · simp only [go_sem, *]
       · simp only [go_sem]; with_reducible rfl)
    | (with_reducible apply al_call (f := 21)
       · first | exact gchk_none rfl | simp only [go_sem, *]
       · rfl
       · exact Go.Proofs.Try.call21
       · simp only [go_sem, *]; with_reducible rfl
       · simp only [go_sem, *]
       · (with_reducible apply c_impl_Both) <;> assumption
       · simp only [go_sem]; with_reducible rfl)
    | (with_reducible apply al_snap (f := 21)
       · first | exact gchk_none rfl | simp only [go_sem, *]
       · rfl
       · exact Go.Proofs.Try.call21
       · simp only [go_sem, *]; with_reducible rfl
       · simp only [go_sem, *]; with_reducible rfl
       · (with_reducible apply c_impl_Both) <;> assumption
       · simp only [go_sem, *]
       · simp only [go_sem]; with_reducible rfl)
    | (with_reducible apply al_call (f := 15)
       · first | exact gchk_none rfl | simp only [go_sem, *]
       · rfl
       · exact Go.Proofs.Try.call15
       · simp only [go_sem, *]; with_reducible rfl
       · simp only [go_sem, *]
       · (with_reducible apply c_laws_eqTermS) <;> assumption
       · simp only [go_sem]; with_reducible rfl)
    | (with_reducible apply al_snap (f := 15)
       · first | exact gchk_none rfl | simp only [go_sem, *]
       · rfl
       · exact Go.Proofs.Try.call15
       · simp only [go_sem, *]; with_reducible rfl
       · simp only [go_sem, *]; with_reducible rfl
       · (with_reducible apply c_laws_eqTermS) <;> assumption
       · simp only [go_sem, *]
       · simp only [go_sem]; with_reducible rfl)
    | (with_reducible apply al_call (f := 18)
       · first | exact gchk_none rfl | simp only [go_sem, *]
       · rfl
       · exact Go.Proofs.Try.call18
       · simp only [go_sem, *]; with_reducible rfl
       · simp only [go_sem, *]
       · (with_reducible apply c_laws_markTermS) <;> assumption
       · simp only [go_sem]; with_reducible rfl)
    | (with_reducible apply al_snap (f := 18)
       · first | exact gchk_none rfl | simp only [go_sem, *]
       · rfl
       · exact Go.Proofs.Try.call18
       · simp only [go_sem, *]; with_reducible rfl
       · simp only [go_sem, *]; with_reducible rfl
       · (with_reducible apply c_laws_markTermS) <;> assumption
       · simp only [go_sem, *]
       · simp only [go_sem]; with_reducible rfl)
    | (with_reducible apply al_call (f := 19)
       · first | exact gchk_none rfl | simp only [go_sem, *]
       · rfl
       · exact Go.Proofs.Try.call19
       · simp only [go_sem, *]; with_reducible rfl
       · simp only [go_sem, *]
       · (with_reducible apply c_laws_heldTermS) <;> assumption
       · simp only [go_sem]; with_reducible rfl)
    | (with_reducible apply al_snap (f := 19)
       · first | exact gchk_none rfl | simp only [go_sem, *]
       · rfl
       · exact Go.Proofs.Try.call19
       · simp only [go_sem, *]; with_reducible rfl
       · simp only [go_sem, *]; with_reducible rfl
       · (with_reducible apply c_laws_heldTermS) <;> assumption
       · simp only [go_sem, *]
       · simp only [go_sem]; with_reducible rfl)
    | (with_reducible apply al_lendL (f := 18) 0
       · exact gchk_none rfl
       · rfl
       · exact Go.Proofs.Try.call18
       · simp only [go_sem, *]; with_reducible rfl
       · simp only [go_sem]; with_reducible rfl
       · simp only [go_sem]; with_reducible rfl
       · simp only [go_sem, *]
       · simp only [go_sem, *]; with_reducible rfl
       · simp only [go_sem, *]
       · simp only [go_sem, *]
       · simp only [go_sem]
         (with_reducible apply m_laws_markTermS) <;> assumption
       · simp only [go_sem, *]
       · simp only [go_sem]; with_reducible rfl)
    | (with_reducible apply al_movetup
       · exact gchk_none rfl
       · rfl
       · simp only [go_sem, *]; with_reducible rfl
       · simp only [go_sem]; with_reducible rfl)
    | (with_reducible apply al_s hT true
       · first | exact gchk_none rfl | simp only [go_sem, *]
       · simp only [go_sem, *]; first | done | with_reducible rfl)
    | (with_reducible apply al_q hT
       · first | exact gchk_none rfl | simp only [go_sem, *]
       · simp only [go_sem, *]; first | done | with_reducible rfl
       · simp only [go_sem]; with_reducible rfl)
    | (with_reducible apply al_skip
       · simp only [go_sem, *]
       · simp only [go_sem]; with_reducible rfl)
    | ((with_reducible first | apply al_caseT rfl | apply al_caseF rfl)
       · simp only [go_sem, *]; with_reducible rfl
       · simp only [go_sem]; with_reducible rfl
       all_goals (intro h; try simp only [Bool.not_eq_true', Bool.not_eq_false'] at h)
       fail_if_success (with_reducible have hh : (true = true ∨ false = false) := by first | exact Or.inl h | exact Or.inr h))
    )
    (simp only [go_sem, *])
  have hgg : decide (szAll g (szAll f 1048576) < 0) = false := by simp; omega
  obtain ⟨hle2, hlen2, hsz2⟩ := szAll_le (f := g) (l := szAll f 1048576) (by omega)
  have hf0 : f.length ≤ 1048576 := by omega
  have hf1 : f.length ≤ 2097152 := by omega
  have hg0 : g.length ≤ 1048576 := by omega
  have hg1 : g.length ≤ 2097152 := by omega
  have hts : ∀ t ∈ f, t.fits := hs
  have hus : ∀ t ∈ g, t.fits := hs'
  have hrf := eqTs_refl f
  have hrg := eqTs_refl g
  have hol := bothO_len f g
  have ho1 : (bothO f g).length < 4611686018427387904 := by omega
  have ho2 : (bothO f g).length ≤ 2097152 := by omega
  have hv := bothV_eq f g
  have hm1 : 1 + 3 * ((bothO f g).length : Int) ≤ 1073741824 := by omega
  have hb2 : decide (1 + 3 * ((bothO f g).length : Int) < 0) = false := by simp; omega
  have hb1 : decide (1 + 3 * (f.length : Int) + 3 * (g.length : Int) < 0) = false := by simp; omega
  have hkk : 1 + 3 * (f.length : Int) ≤ 1073741824 := by omega
  have hkn : 0 ≤ 1 + 3 * (f.length : Int) := by omega
  generalize bothO f g = o at *
  generalize bothB f g = ob at *
  clear hol hle2 hlen hlen2 hneg hneg2
  have hro := eqTs_refl o
  have hml := mkTs_len o.length 1
  have hmf : (mkTs o.length 1).length ≤ 2097152 := by omega
  have hmh := heldT_mk o.length 1
  have hk0 : (0 : Int) ≤ 1 := by omega
  have hk1 : (1 : Int) ≤ 1073741824 := by omega
  refine sound_body hT Go.Proofs.Try.func5 rfl ?_
  rw [Go.Proofs.Try.results5, Go.Proofs.Try.ntmps5]
  simp only [frame, List.length_cons, List.length_nil, List.replicate, List.cons_append, List.nil_append, Nat.reduceAdd, Nat.reduceSub]
  repeat' (first
  | with_reducible first | refine aw_seq ?_ | refine aw_block ?_ | refine aw_skip ?_ | refine aw_exit ?_
  | with_reducible first | refine aw_ret ?_ | refine thenA_n ?_ | refine thenA_r ?_ | refine thenA_x ?_ | refine blockA_n ?_ | refine blockA_r ?_ | refine blockA_e ?_ | refine blockA_x (by decide) ?_ | refine ends_r ?_ | refine ends_n ?_ | refine ends_rM ?_ | refine ends_nM ?_ | refine aw_reg ?_
  | (with_reducible refine aw_any hT ?_ ?_; · decide +kernel)
  | with_reducible refine al_nil ?_
  | (with_reducible apply aw_cond
     · simp only [go_sem, *]; with_reducible rfl
     all_goals (intro h; try simp only [Bool.not_eq_true', Bool.not_eq_false', reduceCtorEq] at h))
  | (with_reducible apply al_call (f := 11)
     · first | exact gchk_none rfl | simp only [go_sem, *]
     · rfl
     · exact Go.Proofs.Try.call11
     · simp only [go_sem, *]; with_reducible rfl
     · simp only [go_sem, *]
     · (with_reducible apply c_laws_szTermS) <;> assumption
     · simp only [go_sem]; with_reducible rfl)
  | (with_reducible apply al_snap (f := 11)
     · first | exact gchk_none rfl | simp only [go_sem, *]
     · rfl
     · exact Go.Proofs.Try.call11
     · simp only [go_sem, *]; with_reducible rfl
     · simp only [go_sem, *]; with_reducible rfl
     · (with_reducible apply c_laws_szTermS) <;> assumption
     · simp only [go_sem, *]
     · simp only [go_sem]; with_reducible rfl)
  | (with_reducible apply al_call (f := 13)
     · first | exact gchk_none rfl | simp only [go_sem, *]
     · rfl
     · exact Go.Proofs.Try.call13
     · simp only [go_sem, *]; with_reducible rfl
     · simp only [go_sem, *]
     · (with_reducible apply c_laws_toTermS) <;> assumption
     · simp only [go_sem]; with_reducible rfl)
  | (with_reducible apply al_snap (f := 13)
     · first | exact gchk_none rfl | simp only [go_sem, *]
     · rfl
     · exact Go.Proofs.Try.call13
     · simp only [go_sem, *]; with_reducible rfl
     · simp only [go_sem, *]; with_reducible rfl
     · (with_reducible apply c_laws_toTermS) <;> assumption
     · simp only [go_sem, *]
     · simp only [go_sem]; with_reducible rfl)
  | (with_reducible apply al_call (f := 20)
     · first | exact gchk_none rfl | simp only [go_sem, *]
     · rfl
     · exact Go.Proofs.Try.call20
     · simp only [go_sem, *]; with_reducible rfl
     · simp only [go_sem, *]
     · (with_reducible apply c_spec_Both) <;> assumption
     · simp only [go_sem]; with_reducible rfl)
  | (with_reducible apply al_snap (f := 20)
     · first | exact gchk_none rfl | simp only [go_sem, *]
     · rfl
     · exact Go.Proofs.Try.call20
     · simp only [go_sem, *]; with_reducible rfl
     · simp only [go_sem, *]; with_reducible rfl
     · (with_reducible apply c_spec_Both) <;> assumption
     · simp only [go_sem, *]
     · simp only [go_sem]; with_reducible rfl)
  | (with_reducible apply al_call (f := 21)
     · first | exact gchk_none rfl | simp only [go_sem, *]
     · rfl
     · exact Go.Proofs.Try.call21
     · simp only [go_sem, *]; with_reducible rfl
     · simp only [go_sem, *]
     · (with_reducible apply c_impl_Both) <;> assumption
     · simp only [go_sem]; with_reducible rfl)
  | (with_reducible apply al_snap (f := 21)
     · first | exact gchk_none rfl | simp only [go_sem, *]
     · rfl
     · exact Go.Proofs.Try.call21
     · simp only [go_sem, *]; with_reducible rfl
     · simp only [go_sem, *]; with_reducible rfl
     · (with_reducible apply c_impl_Both) <;> assumption
     · simp only [go_sem, *]
     · simp only [go_sem]; with_reducible rfl)
  | (with_reducible apply al_call (f := 15)
     · first | exact gchk_none rfl | simp only [go_sem, *]
     · rfl
     · exact Go.Proofs.Try.call15
     · simp only [go_sem, *]; with_reducible rfl
     · simp only [go_sem, *]
     · (with_reducible apply c_laws_eqTermS) <;> assumption
     · simp only [go_sem]; with_reducible rfl)
  | (with_reducible apply al_snap (f := 15)
     · first | exact gchk_none rfl | simp only [go_sem, *]
     · rfl
     · exact Go.Proofs.Try.call15
     · simp only [go_sem, *]; with_reducible rfl
     · simp only [go_sem, *]; with_reducible rfl
     · (with_reducible apply c_laws_eqTermS) <;> assumption
     · simp only [go_sem, *]
     · simp only [go_sem]; with_reducible rfl)
  | (with_reducible apply al_call (f := 18)
     · first | exact gchk_none rfl | simp only [go_sem, *]
     · rfl
     · exact Go.Proofs.Try.call18
     · simp only [go_sem, *]; with_reducible rfl
     · simp only [go_sem, *]
     · (with_reducible apply c_laws_markTermS) <;> assumption
     · simp only [go_sem]; with_reducible rfl)
  | (with_reducible apply al_snap (f := 18)
     · first | exact gchk_none rfl | simp only [go_sem, *]
     · rfl
     · exact Go.Proofs.Try.call18
     · simp only [go_sem, *]; with_reducible rfl
     · simp only [go_sem, *]; with_reducible rfl
     · (with_reducible apply c_laws_markTermS) <;> assumption
     · simp only [go_sem, *]
     · simp only [go_sem]; with_reducible rfl)
  | (with_reducible apply al_call (f := 19)
     · first | exact gchk_none rfl | simp only [go_sem, *]
     · rfl
     · exact Go.Proofs.Try.call19
     · simp only [go_sem, *]; with_reducible rfl
     · simp only [go_sem, *]
     · (with_reducible apply c_laws_heldTermS) <;> assumption
     · simp only [go_sem]; with_reducible rfl)
  | (with_reducible apply al_snap (f := 19)
     · first | exact gchk_none rfl | simp only [go_sem, *]
     · rfl
     · exact Go.Proofs.Try.call19
     · simp only [go_sem, *]; with_reducible rfl
     · simp only [go_sem, *]; with_reducible rfl
     · (with_reducible apply c_laws_heldTermS) <;> assumption
     · simp only [go_sem, *]
     · simp only [go_sem]; with_reducible rfl)
  | (with_reducible apply al_lendL (f := 18) 0
     · exact gchk_none rfl
     · rfl
     · exact Go.Proofs.Try.call18
     · simp only [go_sem, *]; with_reducible rfl
     · simp only [go_sem]; with_reducible rfl
     · simp only [go_sem]; with_reducible rfl
     · simp only [go_sem, *]
     · simp only [go_sem, *]; with_reducible rfl
     · simp only [go_sem, *]
     · simp only [go_sem, *]
     · simp only [go_sem]
       (with_reducible apply m_laws_markTermS) <;> assumption
     · simp only [go_sem, *]
     · simp only [go_sem]; with_reducible rfl)
  | (with_reducible apply al_movetup
     · exact gchk_none rfl
     · rfl
     · simp only [go_sem, *]; with_reducible rfl
     · simp only [go_sem]; with_reducible rfl)
  | (with_reducible apply al_s hT true
     · first | exact gchk_none rfl | simp only [go_sem, *]
     · simp only [go_sem, *]; first | done | with_reducible rfl)
  | (with_reducible apply al_q hT
     · first | exact gchk_none rfl | simp only [go_sem, *]
     · simp only [go_sem, *]; first | done | with_reducible rfl
     · simp only [go_sem]; with_reducible rfl)
  | (with_reducible apply al_skip
     · simp only [go_sem, *]
     · simp only [go_sem]; with_reducible rfl)
  | ((with_reducible first | apply al_caseT rfl | apply al_caseF rfl)
     · simp only [go_sem, *]; with_reducible rfl
     · simp only [go_sem]; with_reducible rfl
     all_goals (intro h; try simp only [Bool.not_eq_true', Bool.not_eq_false'] at h)
     fail_if_success (with_reducible have hh : (true = true ∨ false = false) := by first | exact Or.inl h | exact Or.inr h))
  )
  (simp only [go_sem, *])
end Go.Proofs.Ytjmodjanaeoiiaa
