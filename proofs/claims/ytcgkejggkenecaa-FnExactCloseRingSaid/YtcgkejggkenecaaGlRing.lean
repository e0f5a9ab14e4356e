/- Contracts of the law's helpers: Ring. -/
import Derived.Test.YtcgkejggkenecaaFnV
import Derived.Test.YtcgkejggkenecaaGlText
import Derived.Test.YtcgkejggkenecaaGlMsg
import Derived.Test.YtcgkejggkenecaaGlSub
import Derived.Test.YtcgkejggkenecaaGlInt
namespace Go.Proofs.Ytcgkejggkenecaa
open Go Go.RowKit Go.Bv
set_option linter.unusedSimpArgs false
set_option linter.unusedVariables false
set_option maxRecDepth 4000
set_option maxHeartbeats 1000000
structure RingV where
  cap : Int
  sent : Int
  items : List MsgV
  next : Int
  subs : List SubV
  line : List Int
  grants : List Int
  closed : Bool
def encRing (o : Bool) (x : RingV) : AV := .agg [.int .i64 x.cap, .int .i64 x.sent, .lst o 3 (x.items.map (encMsg o)), .int .i64 x.next, .lst o 7 (x.subs.map (encSub o)), .lst o 1 (x.line.map encInt), .lst o 1 (x.grants.map encInt), .bool x.closed]
theorem ash_Ring (o : Bool) (x : RingV) : ash (encRing o x) = encRing false x := by simp only [encRing, ash, ashs, ashs_Msg, ashs_Sub, ashs_Int]
theorem plA_Ring (o : Bool) (x : RingV) : plA (encRing o x) = true := by simp only [encRing, plA, plAs, Bool.and_self, plAs_Msg, plAs_Sub, plAs_Int]
theorem noSh_Ring (x : RingV) : noSh (encRing true x) = true := by simp only [encRing, noSh, noShs, Bool.and_self, noShs_Msg, noShs_Sub, noShs_Int]
attribute [go_sem] ash_Ring plA_Ring noSh_Ring
def wRing (x : RingV) : Nat := wMsgS x.items + wSubS x.subs + wIntS x.line + wIntS x.grants
def okRing (x : RingV) : Prop := okMsgS x.items ∧ okSubS x.subs ∧ okIntS x.line ∧ okIntS x.grants
def meRing (x : RingV) (k : Int) : RingV := { cap := k, sent := k + 1, items := mkMsgS x.items (k + 1 + 1), next := k + 1 + 1 + (mwMsgS x.items : Nat), subs := mkSubS x.subs (k + 1 + 1 + (mwMsgS x.items : Nat) + 1), line := mkIntS x.line (k + 1 + 1 + (mwMsgS x.items : Nat) + 1 + (mwSubS x.subs : Nat)), grants := mkIntS x.grants (k + 1 + 1 + (mwMsgS x.items : Nat) + 1 + (mwSubS x.subs : Nat) + (mwIntS x.line : Nat)), closed := mBool (k + 1 + 1 + (mwMsgS x.items : Nat) + 1 + (mwSubS x.subs : Nat) + (mwIntS x.line : Nat) + (mwIntS x.grants : Nat)) }
def mwRing (x : RingV) : Nat := 4 + mwMsgS x.items + mwSubS x.subs + mwIntS x.line + mwIntS x.grants
theorem mw10Ring (x : RingV) : mwRing x ≤ 10 * (1 + wRing x) := by
  have := mw10MsgS x.items
  have := mw10SubS x.subs
  have := mw10IntS x.line
  have := mw10IntS x.grants
  simp only [mwRing, wRing]; omega
def mtRing (x : RingV) (k : Int) : RingV := { x with items := mkMsgS x.items (k), subs := mkSubS x.subs (k + (mwMsgS x.items : Nat)), line := mkIntS x.line (k + (mwMsgS x.items : Nat) + (mwSubS x.subs : Nat)), grants := mkIntS x.grants (k + (mwMsgS x.items : Nat) + (mwSubS x.subs : Nat) + (mwIntS x.line : Nat)) }
def mtRingW (x : RingV) : Nat := mwMsgS x.items + mwSubS x.subs + mwIntS x.line + mwIntS x.grants
theorem mt10Ring (x : RingV) : mtRingW x ≤ 10 * wRing x := by
  have := mw10MsgS x.items
  have := mw10SubS x.subs
  have := mw10IntS x.line
  have := mw10IntS x.grants
  simp only [mtRingW, wRing]; omega
def wRingS (f : List RingV) : Nat := f.length + sumL wRing f
def okRingS (f : List RingV) : Prop := f.length < 4611686018427387904 ∧ ∀ x ∈ f, okRing x
def mkRingS (f : List RingV) (k : Int) : List RingV := mkL meRing mwRing f k
def mwRingS (f : List RingV) : Nat := sumL mwRing f
theorem mw10RingS (f : List RingV) : mwRingS f ≤ 10 * wRingS f := sum10 mw10Ring f
theorem ashs_Ring (o : Bool) (f : List RingV) : ashs (f.map (encRing o)) = f.map (encRing false) := ashs_map (g := (encRing o)) (h := (encRing false)) (fun x => ash_Ring o x) f
theorem plAs_Ring (o : Bool) (f : List RingV) : plAs (f.map (encRing o)) = true := plAs_map (g := (encRing o)) (fun x => plA_Ring o x) f
theorem alen_Ring (o : Bool) (f : List RingV) : ((f.map (encRing o)).all fun u => alen u == 8) = true := alen_map (g := (encRing o)) (fun x => rfl) f
theorem noShs_Ring (f : List RingV) : noShs (f.map (encRing true)) = true := noShs_map (g := (encRing true)) (fun x => noSh_Ring x) f
attribute [go_sem] ashs_Ring plAs_Ring alen_Ring noShs_Ring
def zeroRing : AV := .agg [.int .i64 0, .int .i64 0, .lst true 3 [], .int .i64 0, .lst true 7 [], .lst true 1 [], .lst true 1 [], .bool false]
theorem c_laws_szRing (x : RingV) (left : Int) {u : AV} (hu : u = encRing false x) (hb : okRing x) (h0 : decide (left < 0) = false) (h1 : left ≤ 1048576) : Sound P 15 [u, .int .i64 left] (.int .i64 (szW (wRing x) left)) := by
  subst hu
  have hp : 0 ≤ left := by simpa using h0
  obtain ⟨hb0, hb1, hb2, hb3⟩ := hb
  have hl0 : szW (wMsgS x.items) left ≤ 1048576 := szW_le (by omega)
  have hl1 : szW (wSubS x.subs) (szW (wMsgS x.items) left) ≤ 1048576 := szW_le (by omega)
  have hl2 : szW (wIntS x.line) (szW (wSubS x.subs) (szW (wMsgS x.items) left)) ≤ 1048576 := szW_le (by omega)
  have hl3 : szW (wIntS x.grants) (szW (wIntS x.line) (szW (wSubS x.subs) (szW (wMsgS x.items) left))) ≤ 1048576 := szW_le (by omega)
  refine sound_body hT Go.Proofs.Try.func15 rfl ?_
  rw [Go.Proofs.Try.results15, Go.Proofs.Try.ntmps15]
  simp only [frame, List.length_cons, List.length_nil, List.replicate, List.cons_append, List.nil_append, Nat.reduceAdd, Nat.reduceSub]
  repeat' (first
  | with_reducible first | refine aw_seq ?_ | refine aw_block ?_ | refine aw_skip ?_ | refine aw_exit ?_
  | with_reducible first | refine aw_ret ?_ | refine thenA_n ?_ | refine thenA_r ?_ | refine thenA_x ?_ | refine blockA_n ?_ | refine blockA_r ?_ | refine blockA_e ?_ | refine blockA_x (by decide) ?_ | refine ends_r ?_ | refine ends_n ?_ | refine ends_rM ?_ | refine ends_nM ?_ | refine aw_reg ?_
  | with_reducible refine al_nil ?_
  | (with_reducible apply aw_cond
     · simp only [go_sem, *]; with_reducible rfl
     all_goals (intro h; try simp only [Bool.not_eq_true', Bool.not_eq_false', reduceCtorEq] at h))
  | (with_reducible apply al_call (f := 57)
     · first | exact gchk_none rfl | simp only [go_sem, *]
     · rfl
     · exact Go.Proofs.Try.call57
     · simp only [go_sem, encRing, *]; with_reducible rfl
     · simp only [go_sem, *]
     · first | assumption | ((with_reducible apply c_laws_szMsgS) <;> first | assumption | rfl)
     · simp only [go_sem]; with_reducible rfl)
  | (with_reducible apply al_call (f := 58)
     · first | exact gchk_none rfl | simp only [go_sem, *]
     · rfl
     · exact Go.Proofs.Try.call58
     · simp only [go_sem, encRing, *]; with_reducible rfl
     · simp only [go_sem, *]
     · first | assumption | ((with_reducible apply c_laws_szSubS) <;> first | assumption | rfl)
     · simp only [go_sem]; with_reducible rfl)
  | (with_reducible apply al_call (f := 59)
     · first | exact gchk_none rfl | simp only [go_sem, *]
     · rfl
     · exact Go.Proofs.Try.call59
     · simp only [go_sem, encRing, *]; with_reducible rfl
     · simp only [go_sem, *]
     · first | assumption | ((with_reducible apply c_laws_szIntS) <;> first | assumption | rfl)
     · simp only [go_sem]; with_reducible rfl)
  | (with_reducible apply al_s hT true
     · first | exact gchk_none rfl | simp only [go_sem, *]
     · simp only [go_sem, encRing, *]; first | done | with_reducible rfl)
  )
  all_goals (
    (simp only [go_sem, *])
    first
    | done
    | (have hT : wRing x = wMsgS x.items + wSubS x.subs + wIntS x.line + wIntS x.grants := rfl
       simp only [decide_eq_true_eq, decide_eq_false_iff_not, Option.some.injEq, AV.int.injEq, true_and] at *
       rcases szW_cases (wMsgS x.items) left with ⟨_, _⟩ | ⟨_, _⟩ <;> rcases szW_cases (wSubS x.subs) (szW (wMsgS x.items) left) with ⟨_, _⟩ | ⟨_, _⟩ <;> rcases szW_cases (wIntS x.line) (szW (wSubS x.subs) (szW (wMsgS x.items) left)) with ⟨_, _⟩ | ⟨_, _⟩ <;> rcases szW_cases (wIntS x.grants) (szW (wIntS x.line) (szW (wSubS x.subs) (szW (wMsgS x.items) left))) with ⟨_, _⟩ | ⟨_, _⟩ <;> rcases szW_cases (wRing x) left with ⟨_, _⟩ | ⟨_, _⟩ <;> omega))
theorem c_laws_toRing (x : RingV) {u : AV} (hu : u = encRing false x) (hw : wRing x ≤ 4194304) : Sound P 17 [u] (encRing true x) := by
  subst hu
  have hw2 : wMsgS x.items ≤ 4194304 := by simp only [wRing] at hw; omega
  have hw4 : wSubS x.subs ≤ 4194304 := by simp only [wRing] at hw; omega
  have hw5 : wIntS x.line ≤ 4194304 := by simp only [wRing] at hw; omega
  have hw6 : wIntS x.grants ≤ 4194304 := by simp only [wRing] at hw; omega
  clear hw
  refine sound_body hT Go.Proofs.Try.func17 rfl ?_
  rw [Go.Proofs.Try.results17, Go.Proofs.Try.ntmps17]
  simp only [frame, List.length_cons, List.length_nil, List.replicate, List.cons_append, List.nil_append, Nat.reduceAdd, Nat.reduceSub]
  repeat' (first
  | with_reducible first | refine aw_seq ?_ | refine aw_block ?_ | refine aw_skip ?_ | refine aw_exit ?_
  | with_reducible first | refine aw_ret ?_ | refine thenA_n ?_ | refine thenA_r ?_ | refine thenA_x ?_ | refine blockA_n ?_ | refine blockA_r ?_ | refine blockA_e ?_ | refine blockA_x (by decide) ?_ | refine ends_r ?_ | refine ends_n ?_ | refine ends_rM ?_ | refine ends_nM ?_ | refine aw_reg ?_
  | with_reducible refine al_nil ?_
  | (with_reducible apply al_call (f := 67)
     · first | exact gchk_none rfl | simp only [go_sem, *]
     · rfl
     · exact Go.Proofs.Try.call67
     · simp only [go_sem, encRing, *]; with_reducible rfl
     · simp only [go_sem, *]
     · first | assumption | ((with_reducible apply c_laws_toMsgS) <;> first | assumption | rfl)
     · simp only [go_sem]; with_reducible rfl)
  | (with_reducible apply al_call (f := 68)
     · first | exact gchk_none rfl | simp only [go_sem, *]
     · rfl
     · exact Go.Proofs.Try.call68
     · simp only [go_sem, encRing, *]; with_reducible rfl
     · simp only [go_sem, *]
     · first | assumption | ((with_reducible apply c_laws_toSubS) <;> first | assumption | rfl)
     · simp only [go_sem]; with_reducible rfl)
  | (with_reducible apply al_call (f := 69)
     · first | exact gchk_none rfl | simp only [go_sem, *]
     · rfl
     · exact Go.Proofs.Try.call69
     · simp only [go_sem, encRing, *]; with_reducible rfl
     · simp only [go_sem, *]
     · first | assumption | ((with_reducible apply c_laws_toIntS) <;> first | assumption | rfl)
     · simp only [go_sem]; with_reducible rfl)
  | (with_reducible apply al_s hT true
     · first | exact gchk_none rfl | simp only [go_sem, *]
     · simp only [go_sem, encRing, *]; first | done | with_reducible rfl)
  )
  all_goals ((simp only [go_sem, *]); first | done | rfl)
theorem c_laws_eqRing (x : RingV) {u v : AV} (hu : u = encRing false x) (hv : v = encRing false x) (hw : wRing x ≤ 4194304) : Sound P 19 [u, v] (.bool true) := by
  subst hu hv
  have hw2 : wMsgS x.items ≤ 4194304 := by simp only [wRing] at hw; omega
  have hw4 : wSubS x.subs ≤ 4194304 := by simp only [wRing] at hw; omega
  have hw5 : wIntS x.line ≤ 4194304 := by simp only [wRing] at hw; omega
  have hw6 : wIntS x.grants ≤ 4194304 := by simp only [wRing] at hw; omega
  clear hw
  refine sound_body hT Go.Proofs.Try.func19 rfl ?_
  rw [Go.Proofs.Try.results19, Go.Proofs.Try.ntmps19]
  simp only [frame, List.length_cons, List.length_nil, List.replicate, List.cons_append, List.nil_append, Nat.reduceAdd, Nat.reduceSub]
  repeat' (first
  | with_reducible first | refine aw_seq ?_ | refine aw_block ?_ | refine aw_skip ?_ | refine aw_exit ?_
  | with_reducible first | refine aw_ret ?_ | refine thenA_n ?_ | refine thenA_r ?_ | refine thenA_x ?_ | refine blockA_n ?_ | refine blockA_r ?_ | refine blockA_e ?_ | refine blockA_x (by decide) ?_ | refine ends_r ?_ | refine ends_n ?_ | refine ends_rM ?_ | refine ends_nM ?_ | refine aw_reg ?_
  | with_reducible refine al_nil ?_
  | (with_reducible apply aw_cond
     · simp only [go_sem, *]; with_reducible rfl
     all_goals (intro h; try simp only [Bool.not_eq_true', Bool.not_eq_false', reduceCtorEq] at h))
  | (with_reducible apply al_call (f := 78)
     · first | exact gchk_none rfl | simp only [go_sem, *]
     · rfl
     · exact Go.Proofs.Try.call78
     · simp only [go_sem, encRing, *]; with_reducible rfl
     · simp only [go_sem, *]
     · first | assumption | ((with_reducible apply c_laws_eqMsgS) <;> first | assumption | rfl)
     · simp only [go_sem]; with_reducible rfl)
  | (with_reducible apply al_call (f := 79)
     · first | exact gchk_none rfl | simp only [go_sem, *]
     · rfl
     · exact Go.Proofs.Try.call79
     · simp only [go_sem, encRing, *]; with_reducible rfl
     · simp only [go_sem, *]
     · first | assumption | ((with_reducible apply c_laws_eqSubS) <;> first | assumption | rfl)
     · simp only [go_sem]; with_reducible rfl)
  | (with_reducible apply al_call (f := 26)
     · first | exact gchk_none rfl | simp only [go_sem, *]
     · rfl
     · exact Go.Proofs.Try.call26
     · simp only [go_sem, encRing, *]; with_reducible rfl
     · simp only [go_sem, *]
     · first | assumption | ((with_reducible apply c_laws_eqIntS) <;> first | assumption | rfl)
     · simp only [go_sem]; with_reducible rfl)
  | (with_reducible apply al_s hT true
     · first | exact gchk_none rfl | simp only [go_sem, *]
     · simp only [go_sem, encRing, *]; first | done | with_reducible rfl)
  )
  all_goals (simp only [go_sem, *])
-- LENT m_laws_markRing 0
theorem m_laws_markRing (x : RingV) (k : Int) {u : AV} (hu : u = encRing true x) (hw : wRing x ≤ 4194304) (h0 : 0 ≤ k) (h1 : k + (mtRingW x : Nat) ≤ 1099511627776) :
    SoundM P 27 [u, .int .i64 k] 0 (.int .i64 (k + (mtRingW x : Nat))) (encRing true (mtRing x k)) := by
  subst hu
  have hmt : mtRingW x = mwMsgS x.items + mwSubS x.subs + mwIntS x.line + mwIntS x.grants := rfl
  have ht0 := mw10MsgS x.items
  have hy0 : wMsgS x.items ≤ 4194304 := by simp only [wRing] at hw; omega
  have ht1 := mw10SubS x.subs
  have hy1 : wSubS x.subs ≤ 4194304 := by simp only [wRing] at hw; omega
  have ht2 := mw10IntS x.line
  have hy2 : wIntS x.line ≤ 4194304 := by simp only [wRing] at hw; omega
  have ht3 := mw10IntS x.grants
  have hy3 : wIntS x.grants ≤ 4194304 := by simp only [wRing] at hw; omega
  have hn0 : 0 ≤ k := by omega
  have hc0 : k + (mwMsgS x.items : Nat) ≤ 1099511627776 := by omega
  have hn1 : 0 ≤ k + ((mwMsgS x.items : Nat) : Int) := by omega
  have hc1 : k + ((mwMsgS x.items : Nat) : Int) + (mwSubS x.subs : Nat) ≤ 1099511627776 := by omega
  have hn2 : 0 ≤ k + ((mwMsgS x.items : Nat) : Int) + ((mwSubS x.subs : Nat) : Int) := by omega
  have hc2 : k + ((mwMsgS x.items : Nat) : Int) + ((mwSubS x.subs : Nat) : Int) + (mwIntS x.line : Nat) ≤ 1099511627776 := by omega
  have hn3 : 0 ≤ k + ((mwMsgS x.items : Nat) : Int) + ((mwSubS x.subs : Nat) : Int) + ((mwIntS x.line : Nat) : Int) := by omega
  have hc3 : k + ((mwMsgS x.items : Nat) : Int) + ((mwSubS x.subs : Nat) : Int) + ((mwIntS x.line : Nat) : Int) + (mwIntS x.grants : Nat) ≤ 1099511627776 := by omega
  have hret : k + ((mwMsgS x.items : Nat) : Int) + ((mwSubS x.subs : Nat) : Int) + ((mwIntS x.line : Nat) : Int) + ((mwIntS x.grants : Nat) : Int) = k + ((mtRingW x : Nat) : Int) := by omega
  clear hw hmt
  refine sound_bodyM hT Go.Proofs.Try.func27 rfl (by decide +kernel) (by simp) ?hpv ?_
  case hpv => simp only [go_sem, *]
  rw [Go.Proofs.Try.results27, Go.Proofs.Try.ntmps27]
  simp only [frame, List.length_cons, List.length_nil, List.replicate, List.cons_append, List.nil_append, Nat.reduceAdd, Nat.reduceSub]
  repeat' (first
  | with_reducible first | refine aw_seq ?_ | refine aw_block ?_ | refine aw_skip ?_ | refine aw_exit ?_
  | with_reducible first | refine aw_ret ?_ | refine thenA_n ?_ | refine thenA_r ?_ | refine thenA_x ?_ | refine blockA_n ?_ | refine blockA_r ?_ | refine blockA_e ?_ | refine blockA_x (by decide) ?_ | refine ends_r ?_ | refine ends_n ?_ | refine ends_rM ?_ | refine ends_nM ?_ | refine aw_reg ?_
  | with_reducible refine al_nil ?_
  | (with_reducible apply al_lendV (f := 85) 0
     · exact gchk_none rfl
     · rfl
     · exact Go.Proofs.Try.call85
     · simp only [go_sem, encRing, *]; with_reducible rfl
     · simp only [go_sem]; with_reducible rfl
     · simp only [go_sem]; with_reducible rfl
     · simp only [go_sem]; with_reducible rfl
     · simp only [go_sem, *]
     · simp only [go_sem, encRing, *]; with_reducible rfl
     · simp only [go_sem, encRing, *]
     · simp only [go_sem, *]
     · simp only [go_sem, *]
     · simp only [go_sem]
       (with_reducible apply m_laws_markMsgS) <;> first | assumption | rfl
     · simp only [go_sem, encRing, *]
     · simp only [go_sem, encRing]; with_reducible rfl)
  | (with_reducible apply al_lendV (f := 86) 0
     · exact gchk_none rfl
     · rfl
     · exact Go.Proofs.Try.call86
     · simp only [go_sem, encRing, *]; with_reducible rfl
     · simp only [go_sem]; with_reducible rfl
     · simp only [go_sem]; with_reducible rfl
     · simp only [go_sem]; with_reducible rfl
     · simp only [go_sem, *]
     · simp only [go_sem, encRing, *]; with_reducible rfl
     · simp only [go_sem, encRing, *]
     · simp only [go_sem, *]
     · simp only [go_sem, *]
     · simp only [go_sem]
       (with_reducible apply m_laws_markSubS) <;> first | assumption | rfl
     · simp only [go_sem, encRing, *]
     · simp only [go_sem, encRing]; with_reducible rfl)
  | (with_reducible apply al_lendV (f := 28) 0
     · exact gchk_none rfl
     · rfl
     · exact Go.Proofs.Try.call28
     · simp only [go_sem, encRing, *]; with_reducible rfl
     · simp only [go_sem]; with_reducible rfl
     · simp only [go_sem]; with_reducible rfl
     · simp only [go_sem]; with_reducible rfl
     · simp only [go_sem, *]
     · simp only [go_sem, encRing, *]; with_reducible rfl
     · simp only [go_sem, encRing, *]
     · simp only [go_sem, *]
     · simp only [go_sem, *]
     · simp only [go_sem]
       (with_reducible apply m_laws_markIntS) <;> first | assumption | rfl
     · simp only [go_sem, encRing, *]
     · simp only [go_sem, encRing]; with_reducible rfl)
  | (with_reducible apply al_boxv (x := .tmp 0)
     · exact gchk_none rfl
     · rfl
     · simp only [go_sem, encRing, *]; with_reducible rfl
     · simp only [go_sem]; with_reducible rfl)
  | (with_reducible apply al_s hT true
     · first | exact gchk_none rfl | simp only [go_sem, *]
     · simp only [go_sem, encRing, *]; first | done | with_reducible rfl)
  )
  all_goals ((simp only [go_sem, *]); first | done | rfl)
theorem c_laws_heldRing (x : RingV) (k : Int) {u : AV} (hu : u = encRing false (mtRing x k)) (hw : wRing x ≤ 4194304) (h0 : 0 ≤ k) (h1 : k + (mtRingW x : Nat) ≤ 1099511627776) :
    Sound P 29 [u, .int .i64 k] (.int .i64 (k + (mtRingW x : Nat))) := by
  subst hu
  have hmt : mtRingW x = mwMsgS x.items + mwSubS x.subs + mwIntS x.line + mwIntS x.grants := rfl
  have ht0 := mw10MsgS x.items
  have hy0 : wMsgS x.items ≤ 4194304 := by simp only [wRing] at hw; omega
  have hn0 : 0 ≤ k := by omega
  have hc0 : k + (mwMsgS x.items : Nat) ≤ 1099511627776 := by omega
  have hg0 : decide (k + ((mwMsgS x.items : Nat) : Int) < 0) = false := by simp; omega
  have ht1 := mw10SubS x.subs
  have hy1 : wSubS x.subs ≤ 4194304 := by simp only [wRing] at hw; omega
  have hn1 : 0 ≤ k + ((mwMsgS x.items : Nat) : Int) := by omega
  have hc1 : k + ((mwMsgS x.items : Nat) : Int) + (mwSubS x.subs : Nat) ≤ 1099511627776 := by omega
  have hg1 : decide (k + ((mwMsgS x.items : Nat) : Int) + ((mwSubS x.subs : Nat) : Int) < 0) = false := by simp; omega
  have ht2 := mw10IntS x.line
  have hy2 : wIntS x.line ≤ 4194304 := by simp only [wRing] at hw; omega
  have hn2 : 0 ≤ k + ((mwMsgS x.items : Nat) : Int) + ((mwSubS x.subs : Nat) : Int) := by omega
  have hc2 : k + ((mwMsgS x.items : Nat) : Int) + ((mwSubS x.subs : Nat) : Int) + (mwIntS x.line : Nat) ≤ 1099511627776 := by omega
  have hg2 : decide (k + ((mwMsgS x.items : Nat) : Int) + ((mwSubS x.subs : Nat) : Int) + ((mwIntS x.line : Nat) : Int) < 0) = false := by simp; omega
  have ht3 := mw10IntS x.grants
  have hy3 : wIntS x.grants ≤ 4194304 := by simp only [wRing] at hw; omega
  have hn3 : 0 ≤ k + ((mwMsgS x.items : Nat) : Int) + ((mwSubS x.subs : Nat) : Int) + ((mwIntS x.line : Nat) : Int) := by omega
  have hc3 : k + ((mwMsgS x.items : Nat) : Int) + ((mwSubS x.subs : Nat) : Int) + ((mwIntS x.line : Nat) : Int) + (mwIntS x.grants : Nat) ≤ 1099511627776 := by omega
  have hg3 : decide (k + ((mwMsgS x.items : Nat) : Int) + ((mwSubS x.subs : Nat) : Int) + ((mwIntS x.line : Nat) : Int) + ((mwIntS x.grants : Nat) : Int) < 0) = false := by simp; omega
  have hret : k + ((mwMsgS x.items : Nat) : Int) + ((mwSubS x.subs : Nat) : Int) + ((mwIntS x.line : Nat) : Int) + ((mwIntS x.grants : Nat) : Int) = k + ((mtRingW x : Nat) : Int) := by omega
  have hgr : decide (k + ((mtRingW x : Nat) : Int) < 0) = false := by simp; omega
  clear hw hmt
  refine sound_body hT Go.Proofs.Try.func29 rfl ?_
  rw [Go.Proofs.Try.results29, Go.Proofs.Try.ntmps29]
  simp only [frame, List.length_cons, List.length_nil, List.replicate, List.cons_append, List.nil_append, Nat.reduceAdd, Nat.reduceSub]
  repeat' (first
  | with_reducible first | refine aw_seq ?_ | refine aw_block ?_ | refine aw_skip ?_ | refine aw_exit ?_
  | with_reducible first | refine aw_ret ?_ | refine thenA_n ?_ | refine thenA_r ?_ | refine thenA_x ?_ | refine blockA_n ?_ | refine blockA_r ?_ | refine blockA_e ?_ | refine blockA_x (by decide) ?_ | refine ends_r ?_ | refine ends_n ?_ | refine ends_rM ?_ | refine ends_nM ?_ | refine aw_reg ?_
  | with_reducible refine al_nil ?_
  | (with_reducible apply aw_cond
     · simp only [go_sem, *]; with_reducible rfl
     all_goals (intro h; try simp only [Bool.not_eq_true', Bool.not_eq_false', reduceCtorEq] at h))
  | (with_reducible apply al_call (f := 87)
     · first | exact gchk_none rfl | simp only [go_sem, *]
     · rfl
     · exact Go.Proofs.Try.call87
     · simp only [go_sem, encRing, mtRing, *]; with_reducible rfl
     · simp only [go_sem, *]
     · first | assumption | ((with_reducible apply c_laws_heldMsgS) <;> first | assumption | rfl)
     · simp only [go_sem]; with_reducible rfl)
  | (with_reducible apply al_call (f := 88)
     · first | exact gchk_none rfl | simp only [go_sem, *]
     · rfl
     · exact Go.Proofs.Try.call88
     · simp only [go_sem, encRing, mtRing, *]; with_reducible rfl
     · simp only [go_sem, *]
     · first | assumption | ((with_reducible apply c_laws_heldSubS) <;> first | assumption | rfl)
     · simp only [go_sem]; with_reducible rfl)
  | (with_reducible apply al_call (f := 30)
     · first | exact gchk_none rfl | simp only [go_sem, *]
     · rfl
     · exact Go.Proofs.Try.call30
     · simp only [go_sem, encRing, mtRing, *]; with_reducible rfl
     · simp only [go_sem, *]
     · first | assumption | ((with_reducible apply c_laws_heldIntS) <;> first | assumption | rfl)
     · simp only [go_sem]; with_reducible rfl)
  | (with_reducible apply al_s hT true
     · first | exact gchk_none rfl | simp only [go_sem, *]
     · simp only [go_sem, encRing, mtRing, *]; first | done | with_reducible rfl)
  )
  all_goals ((simp only [go_sem, *]); first | done | rfl)
end Go.Proofs.Ytcgkejggkenecaa
