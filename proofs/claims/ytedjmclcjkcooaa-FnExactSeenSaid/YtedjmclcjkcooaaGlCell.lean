/- Contracts of the law's helpers: Cell. -/
import Derived.Test.YtedjmclcjkcooaaFnV
import Derived.Test.YtedjmclcjkcooaaGlText
import Derived.Test.YtedjmclcjkcooaaGlMsg
import Derived.Test.YtedjmclcjkcooaaGlInt
namespace Go.Proofs.Ytedjmclcjkcooaa
open Go Go.RowKit Go.Bv
set_option linter.unusedSimpArgs false
set_option linter.unusedVariables false
set_option maxRecDepth 4000
set_option maxHeartbeats 1000000
structure CellV where
  val : MsgV
  version : Int
  closed : Bool
  line : List Int
  grants : List Int
def encCell (o : Bool) (x : CellV) : AV := .agg [(encMsg o) x.val, .int .i64 x.version, .bool x.closed, .lst o 1 (x.line.map encInt), .lst o 1 (x.grants.map encInt)]
theorem ash_Cell (o : Bool) (x : CellV) : ash (encCell o x) = encCell false x := by simp only [encCell, ash, ashs, ash_Msg, ashs_Int]
theorem plA_Cell (o : Bool) (x : CellV) : plA (encCell o x) = true := by simp only [encCell, plA, plAs, Bool.and_self, plA_Msg, plAs_Int]
theorem noSh_Cell (x : CellV) : noSh (encCell true x) = true := by simp only [encCell, noSh, noShs, Bool.and_self, noSh_Msg, noShs_Int]
attribute [go_sem] ash_Cell plA_Cell noSh_Cell
def wCell (x : CellV) : Nat := wMsg x.val + wIntS x.line + wIntS x.grants
def okCell (x : CellV) : Prop := okMsg x.val ∧ okIntS x.line ∧ okIntS x.grants
def meCell (x : CellV) (k : Int) : CellV := { val := { kind := k, num := k + 1, text := mText (k + 1 + 1) }, version := k + 1 + 1 + 1, closed := mBool (k + 1 + 1 + 1 + 1), line := mkIntS x.line (k + 1 + 1 + 1 + 1 + 1), grants := mkIntS x.grants (k + 1 + 1 + 1 + 1 + 1 + (mwIntS x.line : Nat)) }
def mwCell (x : CellV) : Nat := 5 + mwIntS x.line + mwIntS x.grants
theorem mw10Cell (x : CellV) : mwCell x ≤ 10 * (1 + wCell x) := by
  have := mw10IntS x.line
  have := mw10IntS x.grants
  simp only [mwCell, wCell, wMsg]; omega
def mtCell (x : CellV) (k : Int) : CellV := { x with line := mkIntS x.line (k), grants := mkIntS x.grants (k + (mwIntS x.line : Nat)) }
def mtCellW (x : CellV) : Nat := mwIntS x.line + mwIntS x.grants
theorem mt10Cell (x : CellV) : mtCellW x ≤ 10 * wCell x := by
  have := mw10IntS x.line
  have := mw10IntS x.grants
  simp only [mtCellW, wCell]; omega
def wCellS (f : List CellV) : Nat := f.length + sumL wCell f
def okCellS (f : List CellV) : Prop := f.length < 4611686018427387904 ∧ ∀ x ∈ f, okCell x
def mkCellS (f : List CellV) (k : Int) : List CellV := mkL meCell mwCell f k
def mwCellS (f : List CellV) : Nat := sumL mwCell f
theorem mw10CellS (f : List CellV) : mwCellS f ≤ 10 * wCellS f := sum10 mw10Cell f
theorem ashs_Cell (o : Bool) (f : List CellV) : ashs (f.map (encCell o)) = f.map (encCell false) := ashs_map (g := (encCell o)) (h := (encCell false)) (fun x => ash_Cell o x) f
theorem plAs_Cell (o : Bool) (f : List CellV) : plAs (f.map (encCell o)) = true := plAs_map (g := (encCell o)) (fun x => plA_Cell o x) f
theorem alen_Cell (o : Bool) (f : List CellV) : ((f.map (encCell o)).all fun u => alen u == 7) = true := alen_map (g := (encCell o)) (fun x => rfl) f
theorem noShs_Cell (f : List CellV) : noShs (f.map (encCell true)) = true := noShs_map (g := (encCell true)) (fun x => noSh_Cell x) f
attribute [go_sem] ashs_Cell plAs_Cell alen_Cell noShs_Cell
def zeroCell : AV := .agg [.agg [.int .i64 0, .int .i64 0, .str { data := #[] }], .int .i64 0, .bool false, .lst true 1 [], .lst true 1 []]
theorem c_laws_szCell (x : CellV) (left : Int) {u : AV} (hu : u = encCell false x) (hb : okCell x) (h0 : decide (left < 0) = false) (h1 : left ≤ 1048576) : Sound P 14 [u, .int .i64 left] (.int .i64 (szW (wCell x) left)) := by
  subst hu
  have hp : 0 ≤ left := by simpa using h0
  obtain ⟨hb0, hb1, hb2⟩ := hb
  have hl0 : szW (wMsg x.val) left ≤ 1048576 := szW_le (by omega)
  have hl1 : szW (wIntS x.line) (szW (wMsg x.val) left) ≤ 1048576 := szW_le (by omega)
  have hl2 : szW (wIntS x.grants) (szW (wIntS x.line) (szW (wMsg x.val) left)) ≤ 1048576 := szW_le (by omega)
  refine sound_body hT Try.func14 rfl ?_
  rw [Try.results14, Try.ntmps14]
  simp only [frame, List.length_cons, List.length_nil, List.replicate, List.cons_append, List.nil_append, Nat.reduceAdd, Nat.reduceSub]
  repeat' (first
  | with_reducible first | refine aw_seq ?_ | refine aw_block ?_ | refine aw_skip ?_ | refine aw_exit ?_
  | with_reducible first | refine aw_ret ?_ | refine thenA_n ?_ | refine thenA_r ?_ | refine thenA_x ?_ | refine blockA_n ?_ | refine blockA_r ?_ | refine blockA_e ?_ | refine blockA_x (by decide) ?_ | refine ends_r ?_ | refine ends_n ?_ | refine ends_rM ?_ | refine ends_nM ?_ | refine aw_reg ?_
  | (with_reducible refine aw_any hT ?_ ?_; · decide +kernel)
  | with_reducible refine al_nil ?_
  | (with_reducible apply aw_cond
     · simp only [go_sem, *]; with_reducible rfl
     all_goals (intro h; try simp only [Bool.not_eq_true', Bool.not_eq_false', reduceCtorEq] at h))
  | (with_reducible apply al_call (f := 8)
     · first | exact gchk_none rfl | simp only [go_sem, *]
     · rfl
     · exact Try.call8
     · simp only [go_sem, encCell, encMsg, *]; with_reducible rfl
     · simp only [go_sem, *]
     · first | assumption | ((with_reducible apply c_laws_szMsg) <;> first | assumption | rfl)
     · simp only [go_sem]; with_reducible rfl)
  | (with_reducible apply al_snap (f := 8)
     · first | exact gchk_none rfl | simp only [go_sem, *]
     · rfl
     · exact Try.call8
     · simp only [go_sem, encCell, encMsg, *]; with_reducible rfl
     · simp only [go_sem, encCell, encMsg, *]; with_reducible rfl
     · first | assumption | ((with_reducible apply c_laws_szMsg) <;> first | assumption | rfl)
     · simp only [go_sem, *]
     · simp only [go_sem]; with_reducible rfl)
  | (with_reducible apply al_call (f := 40)
     · first | exact gchk_none rfl | simp only [go_sem, *]
     · rfl
     · exact Try.call40
     · simp only [go_sem, encCell, encMsg, *]; with_reducible rfl
     · simp only [go_sem, *]
     · first | assumption | ((with_reducible apply c_laws_szIntS) <;> first | assumption | rfl)
     · simp only [go_sem]; with_reducible rfl)
  | (with_reducible apply al_snap (f := 40)
     · first | exact gchk_none rfl | simp only [go_sem, *]
     · rfl
     · exact Try.call40
     · simp only [go_sem, encCell, encMsg, *]; with_reducible rfl
     · simp only [go_sem, encCell, encMsg, *]; with_reducible rfl
     · first | assumption | ((with_reducible apply c_laws_szIntS) <;> first | assumption | rfl)
     · simp only [go_sem, *]
     · simp only [go_sem]; with_reducible rfl)
  | (with_reducible apply al_s hT true
     · first | exact gchk_none rfl | simp only [go_sem, *]
     · simp only [go_sem, encCell, encMsg, *]; first | done | with_reducible rfl)
  | (with_reducible apply al_q hT
     · first | exact gchk_none rfl | simp only [go_sem, *]
     · simp only [go_sem, encCell, encMsg, *]; first | done | with_reducible rfl
     · simp only [go_sem]; with_reducible rfl)
  | (with_reducible apply al_skip
     · simp only [go_sem, *]
     · simp only [go_sem]; with_reducible rfl)
  | ((with_reducible first | apply al_caseT rfl | apply al_caseF rfl)
     · simp only [go_sem, *]; with_reducible rfl
     · simp only [go_sem]; with_reducible rfl
     all_goals (intro h; try simp only [Bool.not_eq_true', Bool.not_eq_false'] at h)
     fail_if_success (with_reducible have hh : (true = true ∨ false = false) := by first | exact Or.inl h | exact Or.inr h))
  )
  all_goals (
    (simp only [go_sem, *])
    first
    | done
    | (have hT : wCell x = wMsg x.val + wIntS x.line + wIntS x.grants := rfl
       simp only [decide_eq_true_eq, decide_eq_false_iff_not, Option.some.injEq, AV.int.injEq, true_and] at *
       rcases szW_cases (wMsg x.val) left with ⟨_, _⟩ | ⟨_, _⟩ <;> rcases szW_cases (wIntS x.line) (szW (wMsg x.val) left) with ⟨_, _⟩ | ⟨_, _⟩ <;> rcases szW_cases (wIntS x.grants) (szW (wIntS x.line) (szW (wMsg x.val) left)) with ⟨_, _⟩ | ⟨_, _⟩ <;> rcases szW_cases (wCell x) left with ⟨_, _⟩ | ⟨_, _⟩ <;> omega))
theorem c_laws_toCell (x : CellV) {u : AV} (hu : u = encCell false x) (hw : wCell x ≤ 4194304) : Sound P 16 [u] (encCell true x) := by
  subst hu
  have hw0 : wMsg x.val ≤ 4194304 := by simp only [wCell] at hw; omega
  have hw3 : wIntS x.line ≤ 4194304 := by simp only [wCell] at hw; omega
  have hw4 : wIntS x.grants ≤ 4194304 := by simp only [wCell] at hw; omega
  clear hw
  refine sound_body hT Try.func16 rfl ?_
  rw [Try.results16, Try.ntmps16]
  simp only [frame, List.length_cons, List.length_nil, List.replicate, List.cons_append, List.nil_append, Nat.reduceAdd, Nat.reduceSub]
  repeat' (first
  | with_reducible first | refine aw_seq ?_ | refine aw_block ?_ | refine aw_skip ?_ | refine aw_exit ?_
  | with_reducible first | refine aw_ret ?_ | refine thenA_n ?_ | refine thenA_r ?_ | refine thenA_x ?_ | refine blockA_n ?_ | refine blockA_r ?_ | refine blockA_e ?_ | refine blockA_x (by decide) ?_ | refine ends_r ?_ | refine ends_n ?_ | refine ends_rM ?_ | refine ends_nM ?_ | refine aw_reg ?_
  | (with_reducible refine aw_any hT ?_ ?_; · decide +kernel)
  | with_reducible refine al_nil ?_
  | (with_reducible apply aw_cond
     · simp only [go_sem, *]; with_reducible rfl
     all_goals (intro h; try simp only [Bool.not_eq_true', Bool.not_eq_false', reduceCtorEq] at h))
  | (with_reducible apply al_call (f := 11)
     · first | exact gchk_none rfl | simp only [go_sem, *]
     · rfl
     · exact Try.call11
     · simp only [go_sem, encCell, encMsg, *]; with_reducible rfl
     · simp only [go_sem, *]
     · first | assumption | ((with_reducible apply c_laws_toMsg) <;> first | assumption | rfl)
     · simp only [go_sem]; with_reducible rfl)
  | (with_reducible apply al_snap (f := 11)
     · first | exact gchk_none rfl | simp only [go_sem, *]
     · rfl
     · exact Try.call11
     · simp only [go_sem, encCell, encMsg, *]; with_reducible rfl
     · simp only [go_sem, encCell, encMsg, *]; with_reducible rfl
     · first | assumption | ((with_reducible apply c_laws_toMsg) <;> first | assumption | rfl)
     · simp only [go_sem, *]
     · simp only [go_sem]; with_reducible rfl)
  | (with_reducible apply al_call (f := 46)
     · first | exact gchk_none rfl | simp only [go_sem, *]
     · rfl
     · exact Try.call46
     · simp only [go_sem, encCell, encMsg, *]; with_reducible rfl
     · simp only [go_sem, *]
     · first | assumption | ((with_reducible apply c_laws_toIntS) <;> first | assumption | rfl)
     · simp only [go_sem]; with_reducible rfl)
  | (with_reducible apply al_snap (f := 46)
     · first | exact gchk_none rfl | simp only [go_sem, *]
     · rfl
     · exact Try.call46
     · simp only [go_sem, encCell, encMsg, *]; with_reducible rfl
     · simp only [go_sem, encCell, encMsg, *]; with_reducible rfl
     · first | assumption | ((with_reducible apply c_laws_toIntS) <;> first | assumption | rfl)
     · simp only [go_sem, *]
     · simp only [go_sem]; with_reducible rfl)
  | (with_reducible apply al_s hT true
     · first | exact gchk_none rfl | simp only [go_sem, *]
     · simp only [go_sem, encCell, encMsg, *]; first | done | with_reducible rfl)
  | (with_reducible apply al_q hT
     · first | exact gchk_none rfl | simp only [go_sem, *]
     · simp only [go_sem, encCell, encMsg, *]; first | done | with_reducible rfl
     · simp only [go_sem]; with_reducible rfl)
  | (with_reducible apply al_skip
     · simp only [go_sem, *]
     · simp only [go_sem]; with_reducible rfl)
  | ((with_reducible first | apply al_caseT rfl | apply al_caseF rfl)
     · simp only [go_sem, *]; with_reducible rfl
     · simp only [go_sem]; with_reducible rfl
     all_goals (intro h; try simp only [Bool.not_eq_true', Bool.not_eq_false'] at h)
     fail_if_success (with_reducible have hh : (true = true ∨ false = false) := by first | exact Or.inl h | exact Or.inr h))
  )
  all_goals ((simp only [go_sem, *]); first | done | rfl)
theorem c_laws_eqCell (x : CellV) {u v : AV} (hu : u = encCell false x) (hv : v = encCell false x) (hw : wCell x ≤ 4194304) : Sound P 18 [u, v] (.bool true) := by
  subst hu hv
  have hw0 : wMsg x.val ≤ 4194304 := by simp only [wCell] at hw; omega
  have hw3 : wIntS x.line ≤ 4194304 := by simp only [wCell] at hw; omega
  have hw4 : wIntS x.grants ≤ 4194304 := by simp only [wCell] at hw; omega
  clear hw
  refine sound_body hT Try.func18 rfl ?_
  rw [Try.results18, Try.ntmps18]
  simp only [frame, List.length_cons, List.length_nil, List.replicate, List.cons_append, List.nil_append, Nat.reduceAdd, Nat.reduceSub]
  repeat' (first
  | with_reducible first | refine aw_seq ?_ | refine aw_block ?_ | refine aw_skip ?_ | refine aw_exit ?_
  | with_reducible first | refine aw_ret ?_ | refine thenA_n ?_ | refine thenA_r ?_ | refine thenA_x ?_ | refine blockA_n ?_ | refine blockA_r ?_ | refine blockA_e ?_ | refine blockA_x (by decide) ?_ | refine ends_r ?_ | refine ends_n ?_ | refine ends_rM ?_ | refine ends_nM ?_ | refine aw_reg ?_
  | (with_reducible refine aw_any hT ?_ ?_; · decide +kernel)
  | with_reducible refine al_nil ?_
  | (with_reducible apply aw_cond
     · simp only [go_sem, *]; with_reducible rfl
     all_goals (intro h; try simp only [Bool.not_eq_true', Bool.not_eq_false', reduceCtorEq] at h))
  | (with_reducible apply al_call (f := 19)
     · first | exact gchk_none rfl | simp only [go_sem, *]
     · rfl
     · exact Try.call19
     · simp only [go_sem, encCell, encMsg, *]; with_reducible rfl
     · simp only [go_sem, *]
     · first | assumption | ((with_reducible apply c_laws_eqMsg) <;> first | assumption | rfl)
     · simp only [go_sem]; with_reducible rfl)
  | (with_reducible apply al_snap (f := 19)
     · first | exact gchk_none rfl | simp only [go_sem, *]
     · rfl
     · exact Try.call19
     · simp only [go_sem, encCell, encMsg, *]; with_reducible rfl
     · simp only [go_sem, encCell, encMsg, *]; with_reducible rfl
     · first | assumption | ((with_reducible apply c_laws_eqMsg) <;> first | assumption | rfl)
     · simp only [go_sem, *]
     · simp only [go_sem]; with_reducible rfl)
  | (with_reducible apply al_call (f := 26)
     · first | exact gchk_none rfl | simp only [go_sem, *]
     · rfl
     · exact Try.call26
     · simp only [go_sem, encCell, encMsg, *]; with_reducible rfl
     · simp only [go_sem, *]
     · first | assumption | ((with_reducible apply c_laws_eqIntS) <;> first | assumption | rfl)
     · simp only [go_sem]; with_reducible rfl)
  | (with_reducible apply al_snap (f := 26)
     · first | exact gchk_none rfl | simp only [go_sem, *]
     · rfl
     · exact Try.call26
     · simp only [go_sem, encCell, encMsg, *]; with_reducible rfl
     · simp only [go_sem, encCell, encMsg, *]; with_reducible rfl
     · first | assumption | ((with_reducible apply c_laws_eqIntS) <;> first | assumption | rfl)
     · simp only [go_sem, *]
     · simp only [go_sem]; with_reducible rfl)
  | (with_reducible apply al_s hT true
     · first | exact gchk_none rfl | simp only [go_sem, *]
     · simp only [go_sem, encCell, encMsg, *]; first | done | with_reducible rfl)
  | (with_reducible apply al_q hT
     · first | exact gchk_none rfl | simp only [go_sem, *]
     · simp only [go_sem, encCell, encMsg, *]; first | done | with_reducible rfl
     · simp only [go_sem]; with_reducible rfl)
  | (with_reducible apply al_skip
     · simp only [go_sem, *]
     · simp only [go_sem]; with_reducible rfl)
  | ((with_reducible first | apply al_caseT rfl | apply al_caseF rfl)
     · simp only [go_sem, *]; with_reducible rfl
     · simp only [go_sem]; with_reducible rfl
     all_goals (intro h; try simp only [Bool.not_eq_true', Bool.not_eq_false'] at h)
     fail_if_success (with_reducible have hh : (true = true ∨ false = false) := by first | exact Or.inl h | exact Or.inr h))
  )
  all_goals (simp only [go_sem, *])
-- LENT m_laws_markCell 0
theorem m_laws_markCell (x : CellV) (k : Int) {u : AV} (hu : u = encCell true x) (hw : wCell x ≤ 4194304) (h0 : 0 ≤ k) (h1 : k + (mtCellW x : Nat) ≤ 1099511627776) :
    SoundM P 20 [u, .int .i64 k] 0 (.int .i64 (k + (mtCellW x : Nat))) (encCell true (mtCell x k)) := by
  subst hu
  have hmt : mtCellW x = mwIntS x.line + mwIntS x.grants := rfl
  have ht0 := mw10IntS x.line
  have hy0 : wIntS x.line ≤ 4194304 := by simp only [wCell] at hw; omega
  have ht1 := mw10IntS x.grants
  have hy1 : wIntS x.grants ≤ 4194304 := by simp only [wCell] at hw; omega
  have hn0 : 0 ≤ k := by omega
  have hc0 : k + (mwIntS x.line : Nat) ≤ 1099511627776 := by omega
  have hn1 : 0 ≤ k + ((mwIntS x.line : Nat) : Int) := by omega
  have hc1 : k + ((mwIntS x.line : Nat) : Int) + (mwIntS x.grants : Nat) ≤ 1099511627776 := by omega
  have hret : k + ((mwIntS x.line : Nat) : Int) + ((mwIntS x.grants : Nat) : Int) = k + ((mtCellW x : Nat) : Int) := by omega
  clear hw hmt
  refine sound_bodyM hT Try.func20 rfl (by decide +kernel) (by simp) ?hpv ?_
  case hpv => simp only [go_sem, *]
  rw [Try.results20, Try.ntmps20]
  simp only [frame, List.length_cons, List.length_nil, List.replicate, List.cons_append, List.nil_append, Nat.reduceAdd, Nat.reduceSub]
  repeat' (first
  | with_reducible first | refine aw_seq ?_ | refine aw_block ?_ | refine aw_skip ?_ | refine aw_exit ?_
  | with_reducible first | refine aw_ret ?_ | refine thenA_n ?_ | refine thenA_r ?_ | refine thenA_x ?_ | refine blockA_n ?_ | refine blockA_r ?_ | refine blockA_e ?_ | refine blockA_x (by decide) ?_ | refine ends_r ?_ | refine ends_n ?_ | refine ends_rM ?_ | refine ends_nM ?_ | refine aw_reg ?_
  | (with_reducible refine aw_any hT ?_ ?_; · decide +kernel)
  | with_reducible refine al_nil ?_
  | (with_reducible apply aw_cond
     · simp only [go_sem, *]; with_reducible rfl
     all_goals (intro h; try simp only [Bool.not_eq_true', Bool.not_eq_false', reduceCtorEq] at h))
  | (with_reducible apply al_call (f := 27)
     · first | exact gchk_none rfl | simp only [go_sem, *]
     · rfl
     · exact Try.call27
     · simp only [go_sem, encCell, encMsg, *]; with_reducible rfl
     · simp only [go_sem, *]
     · first | assumption | ((with_reducible apply c_laws_markIntS) <;> first | assumption | rfl)
     · simp only [go_sem]; with_reducible rfl)
  | (with_reducible apply al_snap (f := 27)
     · first | exact gchk_none rfl | simp only [go_sem, *]
     · rfl
     · exact Try.call27
     · simp only [go_sem, encCell, encMsg, *]; with_reducible rfl
     · simp only [go_sem, encCell, encMsg, *]; with_reducible rfl
     · first | assumption | ((with_reducible apply c_laws_markIntS) <;> first | assumption | rfl)
     · simp only [go_sem, *]
     · simp only [go_sem]; with_reducible rfl)
  | (with_reducible apply al_lendV (f := 27) 0
     · exact gchk_none rfl
     · rfl
     · exact Try.call27
     · simp only [go_sem, encCell, encMsg, *]; with_reducible rfl
     · simp only [go_sem]; with_reducible rfl
     · simp only [go_sem]; with_reducible rfl
     · simp only [go_sem]; with_reducible rfl
     · simp only [go_sem, *]
     · simp only [go_sem, encCell, encMsg, *]; with_reducible rfl
     · simp only [go_sem, encCell, encMsg, *]
     · simp only [go_sem, *]
     · simp only [go_sem, *]
     · simp only [go_sem]
       (with_reducible apply m_laws_markIntS) <;> first | assumption | rfl
     · simp only [go_sem, encCell, encMsg, *]
     · simp only [go_sem, encCell, encMsg]; with_reducible rfl)
  | (with_reducible apply al_boxv (x := .tmp 0)
     · exact gchk_none rfl
     · rfl
     · simp only [go_sem, encCell, encMsg, *]; with_reducible rfl
     · simp only [go_sem]; with_reducible rfl)
  | (with_reducible apply al_s hT true
     · first | exact gchk_none rfl | simp only [go_sem, *]
     · simp only [go_sem, encCell, encMsg, *]; first | done | with_reducible rfl)
  | (with_reducible apply al_q hT
     · first | exact gchk_none rfl | simp only [go_sem, *]
     · simp only [go_sem, encCell, encMsg, *]; first | done | with_reducible rfl
     · simp only [go_sem]; with_reducible rfl)
  | (with_reducible apply al_skip
     · simp only [go_sem, *]
     · simp only [go_sem]; with_reducible rfl)
  | ((with_reducible first | apply al_caseT rfl | apply al_caseF rfl)
     · simp only [go_sem, *]; with_reducible rfl
     · simp only [go_sem]; with_reducible rfl
     all_goals (intro h; try simp only [Bool.not_eq_true', Bool.not_eq_false'] at h)
     fail_if_success (with_reducible have hh : (true = true ∨ false = false) := by first | exact Or.inl h | exact Or.inr h))
  )
  all_goals ((simp only [go_sem, *]); first | done | rfl)
theorem c_laws_heldCell (x : CellV) (k : Int) {u : AV} (hu : u = encCell false (mtCell x k)) (hw : wCell x ≤ 4194304) (h0 : 0 ≤ k) (h1 : k + (mtCellW x : Nat) ≤ 1099511627776) :
    Sound P 21 [u, .int .i64 k] (.int .i64 (k + (mtCellW x : Nat))) := by
  subst hu
  have hmt : mtCellW x = mwIntS x.line + mwIntS x.grants := rfl
  have ht0 := mw10IntS x.line
  have hy0 : wIntS x.line ≤ 4194304 := by simp only [wCell] at hw; omega
  have hn0 : 0 ≤ k := by omega
  have hc0 : k + (mwIntS x.line : Nat) ≤ 1099511627776 := by omega
  have hg0 : decide (k + ((mwIntS x.line : Nat) : Int) < 0) = false := by simp; omega
  have ht1 := mw10IntS x.grants
  have hy1 : wIntS x.grants ≤ 4194304 := by simp only [wCell] at hw; omega
  have hn1 : 0 ≤ k + ((mwIntS x.line : Nat) : Int) := by omega
  have hc1 : k + ((mwIntS x.line : Nat) : Int) + (mwIntS x.grants : Nat) ≤ 1099511627776 := by omega
  have hg1 : decide (k + ((mwIntS x.line : Nat) : Int) + ((mwIntS x.grants : Nat) : Int) < 0) = false := by simp; omega
  have hret : k + ((mwIntS x.line : Nat) : Int) + ((mwIntS x.grants : Nat) : Int) = k + ((mtCellW x : Nat) : Int) := by omega
  have hgr : decide (k + ((mtCellW x : Nat) : Int) < 0) = false := by simp; omega
  clear hw hmt
  refine sound_body hT Try.func21 rfl ?_
  rw [Try.results21, Try.ntmps21]
  simp only [frame, List.length_cons, List.length_nil, List.replicate, List.cons_append, List.nil_append, Nat.reduceAdd, Nat.reduceSub]
  repeat' (first
  | with_reducible first | refine aw_seq ?_ | refine aw_block ?_ | refine aw_skip ?_ | refine aw_exit ?_
  | with_reducible first | refine aw_ret ?_ | refine thenA_n ?_ | refine thenA_r ?_ | refine thenA_x ?_ | refine blockA_n ?_ | refine blockA_r ?_ | refine blockA_e ?_ | refine blockA_x (by decide) ?_ | refine ends_r ?_ | refine ends_n ?_ | refine ends_rM ?_ | refine ends_nM ?_ | refine aw_reg ?_
  | (with_reducible refine aw_any hT ?_ ?_; · decide +kernel)
  | with_reducible refine al_nil ?_
  | (with_reducible apply aw_cond
     · simp only [go_sem, *]; with_reducible rfl
     all_goals (intro h; try simp only [Bool.not_eq_true', Bool.not_eq_false', reduceCtorEq] at h))
  | (with_reducible apply al_call (f := 28)
     · first | exact gchk_none rfl | simp only [go_sem, *]
     · rfl
     · exact Try.call28
     · simp only [go_sem, encCell, encMsg, mtCell, *]; with_reducible rfl
     · simp only [go_sem, *]
     · first | assumption | ((with_reducible apply c_laws_heldIntS) <;> first | assumption | rfl)
     · simp only [go_sem]; with_reducible rfl)
  | (with_reducible apply al_snap (f := 28)
     · first | exact gchk_none rfl | simp only [go_sem, *]
     · rfl
     · exact Try.call28
     · simp only [go_sem, encCell, encMsg, mtCell, *]; with_reducible rfl
     · simp only [go_sem, encCell, encMsg, mtCell, *]; with_reducible rfl
     · first | assumption | ((with_reducible apply c_laws_heldIntS) <;> first | assumption | rfl)
     · simp only [go_sem, *]
     · simp only [go_sem]; with_reducible rfl)
  | (with_reducible apply al_s hT true
     · first | exact gchk_none rfl | simp only [go_sem, *]
     · simp only [go_sem, encCell, encMsg, mtCell, *]; first | done | with_reducible rfl)
  | (with_reducible apply al_q hT
     · first | exact gchk_none rfl | simp only [go_sem, *]
     · simp only [go_sem, encCell, encMsg, mtCell, *]; first | done | with_reducible rfl
     · simp only [go_sem]; with_reducible rfl)
  | (with_reducible apply al_skip
     · simp only [go_sem, *]
     · simp only [go_sem]; with_reducible rfl)
  | ((with_reducible first | apply al_caseT rfl | apply al_caseF rfl)
     · simp only [go_sem, *]; with_reducible rfl
     · simp only [go_sem]; with_reducible rfl
     all_goals (intro h; try simp only [Bool.not_eq_true', Bool.not_eq_false'] at h)
     fail_if_success (with_reducible have hh : (true = true ∨ false = false) := by first | exact Or.inl h | exact Or.inr h))
  )
  all_goals ((simp only [go_sem, *]); first | done | rfl)
end Go.Proofs.Ytedjmclcjkcooaa
