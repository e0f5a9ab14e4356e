/- Contracts: equal filters. -/
import Derived.Test.YtjmodjanaeoiiaaFnE
import Derived.Test.YtjmodjanaeoiiaaBvAq
namespace Go.Proofs.Ytjmodjanaeoiiaa
open Go Go.RowKit Go.Bv
set_option linter.unusedSimpArgs false
set_option linter.unusedVariables false
set_option maxRecDepth 4000

/-- Equal terms. -/
def eqT (t u : TermV) : Bool := t.op == u.op && t.num == u.num && sameS t.text u.text
def eqTs : List TermV → List TermV → Bool
  | [], [] => true
  | t :: ts, u :: us => eqT t u && eqTs ts us
  | _, _ => false
theorem eqTs_refl : ∀ f : List TermV, eqTs f f = true
  | [] => rfl
  | t :: f => by simp [eqTs, eqT, sameS, eqTs_refl f]
theorem eqTs_len : ∀ f g : List TermV, f.length ≠ g.length → eqTs f g = false
  | [], [], h => absurd rfl h
  | [], _ :: _, _ => rfl
  | _ :: _, [], _ => rfl
  | t :: f, u :: g, h => by
    have hne : f.length ≠ g.length := fun e => h (by rw [List.length_cons, List.length_cons, e])
    simp only [eqTs]
    rw [eqTs_len f g hne]
    simp
theorem c_laws_eqTermS {s s' : Nat} (f g : List TermV) (hf : f.length < 4611686018427387904) (hg : g.length < 4611686018427387904) : Sound P 15 [.lst false s (f.map encT), .lst false s' (g.map encT)] (.bool (eqTs f g)) := by
  refine sound_body hT Go.Proofs.Try.func15 rfl ?_
  rw [Go.Proofs.Try.results15, Go.Proofs.Try.ntmps15]
  simp only [frame, List.length_cons, List.length_nil, List.replicate, List.cons_append, List.nil_append, Nat.reduceAdd, Nat.reduceSub]
  repeat' (first
  | with_reducible first | refine aw_seq ?_ | refine aw_block ?_ | refine aw_skip ?_ | refine aw_exit ?_
  | with_reducible first | refine aw_ret ?_ | refine thenA_n ?_ | refine thenA_r ?_ | refine thenA_x ?_ | refine blockA_n ?_ | refine blockA_r ?_ | refine blockA_e ?_ | refine blockA_x (by decide) ?_ | refine ends_r ?_ | refine ends_n ?_ | refine ends_rM ?_ | refine ends_nM ?_ | refine aw_reg ?_
  | (with_reducible apply aw_anyW (id := 6) [[], [], [0, 1], [0, 1, 2], [], [], [4, 5], [4, 5, 6], [0, 1, 2, 3, 4, 5, 6, 7], [0, 1, 2, 3, 4, 5, 6, 7, 8]] [[(17, _)], [(18, _)], [(19, _)], [(20, _)], [(21, _)], [(22, _)], [(23, _)], [(24, _)], [(25, _)], [(26, _)]] hT
     · decide +kernel
     · repeat' (first
         | exact steps_nil
         | (with_reducible refine steps_cons (fun D hk hd => ?_) ?_
            · try simp only [go_sem, allT, Option.getD_some] at hd
              simp only [fillW, putIfs, putIf, cond_true, also, Nat.reduceBEq, cond_false, Nat.reduceAdd, hd, hk]
              first
              | exact as_q hT (gchk_none rfl) (by simp only [go_sem, List.length_map, *]; with_reducible rfl) (by simp only [go_sem]; with_reducible rfl)
              | exact as_call (f := 57) (gchk_none rfl) rfl Go.Proofs.Try.call57 (by simp only [go_sem, List.length_map, *]; with_reducible rfl) (by simp only [go_sem, *]) (by (with_reducible apply c_laws_eqTerm) <;> assumption) (by simp only [go_sem]; with_reducible rfl)
              | exact as_s hT true (gchk_none rfl) (by simp only [go_sem, List.length_map, *]; with_reducible rfl)))
     · rfl
     simp only [fillW, putIfs, putIf, cond_true])
  | (with_reducible refine aw_any hT ?_ ?_; · decide +kernel)
  | with_reducible refine al_nil ?_
  | (with_reducible apply aw_cond
     · simp only [go_sem, *]; with_reducible rfl
     all_goals (intro h; try simp only [Bool.not_eq_true', Bool.not_eq_false', reduceCtorEq] at h))
  | (with_reducible apply al_call (f := 57)
     · first | exact gchk_none rfl | simp only [go_sem, *]
     · rfl
     · exact Go.Proofs.Try.call57
     · simp only [go_sem, List.length_map, *]; with_reducible rfl
     · simp only [go_sem, *]
     · (with_reducible apply c_laws_eqTerm) <;> assumption
     · simp only [go_sem]; with_reducible rfl)
  | (with_reducible apply al_snap (f := 57)
     · first | exact gchk_none rfl | simp only [go_sem, *]
     · rfl
     · exact Go.Proofs.Try.call57
     · simp only [go_sem, List.length_map, *]; with_reducible rfl
     · simp only [go_sem, List.length_map, *]; with_reducible rfl
     · (with_reducible apply c_laws_eqTerm) <;> assumption
     · simp only [go_sem, *]
     · simp only [go_sem]; with_reducible rfl)
  | (with_reducible apply al_s hT true
     · first | exact gchk_none rfl | simp only [go_sem, *]
     · simp only [go_sem, List.length_map, *]; first | done | with_reducible rfl)
  | (with_reducible apply al_q hT
     · first | exact gchk_none rfl | simp only [go_sem, *]
     · simp only [go_sem, List.length_map, *]; first | done | with_reducible rfl
     · simp only [go_sem]; with_reducible rfl)
  | (with_reducible apply al_skip
     · simp only [go_sem, *]
     · simp only [go_sem]; with_reducible rfl)
  | ((with_reducible first | apply al_caseT rfl | apply al_caseF rfl)
     · simp only [go_sem, *]; with_reducible rfl
     · simp only [go_sem]; with_reducible rfl
     all_goals (intro h; try simp only [Bool.not_eq_true', Bool.not_eq_false'] at h)
     fail_if_success (with_reducible have hh : (true = true ∨ false = false) := by first | exact Or.inl h | exact Or.inr h))
  )
  · (simp only [go_sem, *])
    rw [eqTs_len f g (by have := h; simp only [bne_iff_ne, ne_eq, Int.natCast_inj] at this; exact this)]
  · have hlen : f.length = g.length := by have := h; simp only [bne_eq_false_iff_eq, Int.natCast_inj] at this; exact this
    clear h
    refine aw_loop [2, 3, 6, 7, 8, 9, 10, 11, 12, 13, 14, 15, 16, 17, 18, 19, 20, 21, 22, 23, 24, 25, 26] (fun n S => ∃ (i : Nat), n = f.length - i ∧ i ≤ f.length ∧ eqTs (f.drop i) (g.drop i) = eqTs f g ∧ S = [.lst false s (f.map encT), .lst false s' (g.map encT), .undef, .undef, .bool false, .int .i64 i, .undef, .undef, .undef, .undef, .undef, .undef, .undef, .undef, .undef, .undef, .undef, .undef, .undef, .undef, .undef, .undef, .undef, .undef, .undef, .undef, .undef]) f.length ?_ ?_
    · refine ⟨0, by simp, by omega, by simp, ?_⟩
      simp only [clr, go_sem]
      first | done | rfl
    · rintro n S ⟨i, hn, hi, hz, rfl⟩
      have hwi : IntKind.i64.wrap ((i : Int) + 1) = ((i + 1 : Nat) : Int) := by rw [wrap_small] <;> omega
      by_cases hlt : i < f.length
      · have hd : decide ((i : Int) < (f.length : Int)) = true := by simp [hlt]
        have hlt2 : i < g.length := by omega
        obtain ⟨t, hti⟩ : ∃ t, f[i]? = some t := ⟨f[i], by simp [hlt]⟩
        obtain ⟨u, hui⟩ : ∃ u, g[i]? = some u := ⟨g[i], by simp [hlt2]⟩
        have hdr : f.drop i = t :: f.drop (i + 1) := by
          rw [List.drop_eq_getElem_cons hlt]; congr 1; simpa [hlt] using hti
        have hdr2 : g.drop i = u :: g.drop (i + 1) := by
          rw [List.drop_eq_getElem_cons hlt2]; congr 1; simpa [hlt2] using hui
        rw [hdr, hdr2] at hz
        simp only [eqTs] at hz
        clear hdr hdr2 hlen
        have heq : (t.op == u.op && t.num == u.num && sameS t.text u.text) = eqT t u := rfl
        repeat' (first
        | with_reducible first | refine aw_seq ?_ | refine aw_block ?_ | refine aw_skip ?_ | refine aw_exit ?_
        | with_reducible first | refine aw_ret ?_ | refine thenA_n ?_ | refine thenA_r ?_ | refine thenA_x ?_ | refine blockA_n ?_ | refine blockA_r ?_ | refine blockA_e ?_ | refine blockA_x (by decide) ?_ | refine ends_r ?_ | refine ends_n ?_ | refine ends_rM ?_ | refine ends_nM ?_ | refine aw_reg ?_
        | (with_reducible apply aw_anyW (id := 6) [[], [], [0, 1], [0, 1, 2], [], [], [4, 5], [4, 5, 6], [0, 1, 2, 3, 4, 5, 6, 7], [0, 1, 2, 3, 4, 5, 6, 7, 8]] [[(17, _)], [(18, _)], [(19, _)], [(20, _)], [(21, _)], [(22, _)], [(23, _)], [(24, _)], [(25, _)], [(26, _)]] hT
           · decide +kernel
           · repeat' (first
               | exact steps_nil
               | (with_reducible refine steps_cons (fun D hk hd => ?_) ?_
                  · try simp only [go_sem, allT, Option.getD_some] at hd
                    simp only [fillW, putIfs, putIf, cond_true, also, Nat.reduceBEq, cond_false, Nat.reduceAdd, hd, hk]
                    first
                    | exact as_q hT (gchk_none rfl) (by simp only [go_sem, List.length_map, encT, *]; with_reducible rfl) (by simp only [go_sem]; with_reducible rfl)
                    | exact as_call (f := 57) (gchk_none rfl) rfl Go.Proofs.Try.call57 (by simp only [go_sem, List.length_map, encT, *]; with_reducible rfl) (by simp only [go_sem, *]) (by (with_reducible apply c_laws_eqTerm) <;> assumption) (by simp only [go_sem]; with_reducible rfl)
                    | exact as_s hT true (gchk_none rfl) (by simp only [go_sem, List.length_map, encT, *]; with_reducible rfl)))
           · rfl
           simp only [fillW, putIfs, putIf, cond_true])
        | (with_reducible refine aw_any hT ?_ ?_; · decide +kernel)
        | with_reducible refine al_nil ?_
        | (with_reducible apply aw_cond
           · simp only [go_sem, *]; with_reducible rfl
           all_goals (intro h; try simp only [Bool.not_eq_true', Bool.not_eq_false', reduceCtorEq] at h))
        | (with_reducible apply al_call (f := 57)
           · first | exact gchk_none rfl | simp only [go_sem, *]
           · rfl
           · exact Go.Proofs.Try.call57
           · simp only [go_sem, List.length_map, encT, *]; with_reducible rfl
           · simp only [go_sem, *]
           · (with_reducible apply c_laws_eqTerm) <;> assumption
           · simp only [go_sem]; with_reducible rfl)
        | (with_reducible apply al_snap (f := 57)
           · first | exact gchk_none rfl | simp only [go_sem, *]
           · rfl
           · exact Go.Proofs.Try.call57
           · simp only [go_sem, List.length_map, encT, *]; with_reducible rfl
           · simp only [go_sem, List.length_map, encT, *]; with_reducible rfl
           · (with_reducible apply c_laws_eqTerm) <;> assumption
           · simp only [go_sem, *]
           · simp only [go_sem]; with_reducible rfl)
        | (with_reducible apply al_s hT true
           · first | exact gchk_none rfl | simp only [go_sem, *]
           · simp only [go_sem, List.length_map, encT, *]; first | done | with_reducible rfl)
        | (with_reducible apply al_q hT
           · first | exact gchk_none rfl | simp only [go_sem, *]
           · simp only [go_sem, List.length_map, encT, *]; first | done | with_reducible rfl
           · simp only [go_sem]; with_reducible rfl)
        | (with_reducible apply al_skip
           · simp only [go_sem, *]
           · simp only [go_sem]; with_reducible rfl)
        | ((with_reducible first | apply al_caseT rfl | apply al_caseF rfl)
           · simp only [go_sem, *]; with_reducible rfl
           · simp only [go_sem]; with_reducible rfl
           all_goals (intro h; try simp only [Bool.not_eq_true', Bool.not_eq_false'] at h)
           fail_if_success (with_reducible have hh : (true = true ∨ false = false) := by first | exact Or.inl h | exact Or.inr h))
        )
        · (simp only [go_sem, *])
          first | done | simp_all
        · refine ⟨f.length - (i + 1), by omega, i + 1, rfl, by omega, by simp_all, ?_⟩
          simp only [clr, go_sem]
      · have hd : decide ((i : Int) < (f.length : Int)) = false := by simp; omega
        have hgi : g.length ≤ i := by omega
        clear hlen
        repeat' (first
        | with_reducible first | refine aw_seq ?_ | refine aw_block ?_ | refine aw_skip ?_ | refine aw_exit ?_
        | with_reducible first | refine aw_ret ?_ | refine thenA_n ?_ | refine thenA_r ?_ | refine thenA_x ?_ | refine blockA_n ?_ | refine blockA_r ?_ | refine blockA_e ?_ | refine blockA_x (by decide) ?_ | refine ends_r ?_ | refine ends_n ?_ | refine ends_rM ?_ | refine ends_nM ?_ | refine aw_reg ?_
        | (with_reducible apply aw_anyW (id := 6) [[], [], [0, 1], [0, 1, 2], [], [], [4, 5], [4, 5, 6], [0, 1, 2, 3, 4, 5, 6, 7], [0, 1, 2, 3, 4, 5, 6, 7, 8]] [[(17, _)], [(18, _)], [(19, _)], [(20, _)], [(21, _)], [(22, _)], [(23, _)], [(24, _)], [(25, _)], [(26, _)]] hT
           · decide +kernel
           · repeat' (first
               | exact steps_nil
               | (with_reducible refine steps_cons (fun D hk hd => ?_) ?_
                  · try simp only [go_sem, allT, Option.getD_some] at hd
                    simp only [fillW, putIfs, putIf, cond_true, also, Nat.reduceBEq, cond_false, Nat.reduceAdd, hd, hk]
                    first
                    | exact as_q hT (gchk_none rfl) (by simp only [go_sem, List.length_map, encT, *]; with_reducible rfl) (by simp only [go_sem]; with_reducible rfl)
                    | exact as_call (f := 57) (gchk_none rfl) rfl Go.Proofs.Try.call57 (by simp only [go_sem, List.length_map, encT, *]; with_reducible rfl) (by simp only [go_sem, *]) (by (with_reducible apply c_laws_eqTerm) <;> assumption) (by simp only [go_sem]; with_reducible rfl)
                    | exact as_s hT true (gchk_none rfl) (by simp only [go_sem, List.length_map, encT, *]; with_reducible rfl)))
           · rfl
           simp only [fillW, putIfs, putIf, cond_true])
        | (with_reducible refine aw_any hT ?_ ?_; · decide +kernel)
        | with_reducible refine al_nil ?_
        | (with_reducible apply aw_cond
           · simp only [go_sem, *]; with_reducible rfl
           all_goals (intro h; try simp only [Bool.not_eq_true', Bool.not_eq_false', reduceCtorEq] at h))
        | (with_reducible apply al_call (f := 57)
           · first | exact gchk_none rfl | simp only [go_sem, *]
           · rfl
           · exact Go.Proofs.Try.call57
           · simp only [go_sem, List.length_map, encT, *]; with_reducible rfl
           · simp only [go_sem, *]
           · (with_reducible apply c_laws_eqTerm) <;> assumption
           · simp only [go_sem]; with_reducible rfl)
        | (with_reducible apply al_snap (f := 57)
           · first | exact gchk_none rfl | simp only [go_sem, *]
           · rfl
           · exact Go.Proofs.Try.call57
           · simp only [go_sem, List.length_map, encT, *]; with_reducible rfl
           · simp only [go_sem, List.length_map, encT, *]; with_reducible rfl
           · (with_reducible apply c_laws_eqTerm) <;> assumption
           · simp only [go_sem, *]
           · simp only [go_sem]; with_reducible rfl)
        | (with_reducible apply al_s hT true
           · first | exact gchk_none rfl | simp only [go_sem, *]
           · simp only [go_sem, List.length_map, encT, *]; first | done | with_reducible rfl)
        | (with_reducible apply al_q hT
           · first | exact gchk_none rfl | simp only [go_sem, *]
           · simp only [go_sem, List.length_map, encT, *]; first | done | with_reducible rfl
           · simp only [go_sem]; with_reducible rfl)
        | (with_reducible apply al_skip
           · simp only [go_sem, *]
           · simp only [go_sem]; with_reducible rfl)
        | ((with_reducible first | apply al_caseT rfl | apply al_caseF rfl)
           · simp only [go_sem, *]; with_reducible rfl
           · simp only [go_sem]; with_reducible rfl
           all_goals (intro h; try simp only [Bool.not_eq_true', Bool.not_eq_false'] at h)
           fail_if_success (with_reducible have hh : (true = true ∨ false = false) := by first | exact Or.inl h | exact Or.inr h))
        )
        (simp only [go_sem, *])
        rw [List.drop_of_length_le (by omega), List.drop_of_length_le (by omega)] at hz
        rw [← hz]; rfl
theorem szTs_le : ∀ (f : List TermV) (l : Int), 0 ≤ szTs f l → szTs f l ≤ l ∧ ∀ t ∈ f, (t.text.size : Int) ≤ l
  | [], l, _ => ⟨Int.le_refl _, by simp⟩
  | t :: f, l, h => by
    simp only [szTs] at h ⊢
    split at h
    · omega
    · rename_i hn
      rw [if_neg hn]
      obtain ⟨h1, h2⟩ := szTs_le f _ h
      have hs : szT t l = l - t.text.size := by unfold szT at hn ⊢; split <;> simp_all
      refine ⟨by omega, fun u hu => ?_⟩
      rcases List.mem_cons.1 hu with rfl | hu
      · omega
      · have := h2 u hu; omega
theorem szAll_le {f : List TermV} {l : Int} (h : 0 ≤ szAll f l) : szAll f l ≤ l ∧ (f.length : Int) ≤ l ∧ ∀ t ∈ f, (t.text.size : Int) ≤ l := by
  unfold szAll at h ⊢
  split at h
  · omega
  · rename_i hn
    rw [if_neg hn]
    obtain ⟨h1, h2⟩ := szTs_le f _ h
    refine ⟨by omega, by omega, fun t ht => ?_⟩
    have := h2 t ht; omega
theorem ashs_encT (f : List TermV) : ashs (f.map encT) = f.map encT := by
  induction f with
  | nil => rfl
  | cons t f ih => simp only [List.map_cons, ashs, ih]; rfl
theorem take_encT (f : List TermV) : List.take f.length (f.map encT) = f.map encT := List.take_of_length_le (by simp)

theorem plAs_encT (f : List TermV) : plAs (f.map encT) = true := by
  induction f with
  | nil => rfl
  | cons t f ih => simp only [List.map_cons, plAs, ih]; rfl

theorem leafAs_encT (f : List TermV) : leafAs (f.map encT) = true := by
  induction f with
  | nil => rfl
  | cons t f ih => simp only [List.map_cons, leafAs, ih]; rfl
theorem alen_encT (f : List TermV) : ((f.map encT).all fun u => alen u == 3) = true := by
  simp [encT, alen, alens]
theorem noShs_encT (f : List TermV) : noShs (f.map encT) = true := by
  induction f with
  | nil => rfl
  | cons t f ih => simp only [List.map_cons, noShs, ih]; rfl
attribute [go_sem] ashs_encT plAs_encT noShs_encT alen_encT leafAs_encT take_encT
end Go.Proofs.Ytjmodjanaeoiiaa