/- Contracts of the law's helpers: Msg. Contracts of the law's helpers: Change. Contracts of the law's helpers: Cell. -/
import Derived.Test.YtbeijohahflkeaaKA
import Derived.Test.YtbeijohahflkeaaKG
namespace Go.Proofs.Ytbeijohahflkeaa
open Go Go.RowKit Go.Bv
set_option linter.unusedSimpArgs false
set_option linter.unusedVariables false
set_option maxRecDepth 4000
set_option maxHeartbeats 1000000
structure MsgV where
  kind : Int
  num : Int
  text : ByteArray
def encMsg (o : Bool) (x : MsgV) : AV := .agg [.int .i64 x.kind, .int .i64 x.num, .str x.text]
theorem ash_Msg (o : Bool) (x : MsgV) : ash (encMsg o x) = encMsg false x := by simp only [encMsg, ash, ashs]
theorem plA_Msg (o : Bool) (x : MsgV) : plA (encMsg o x) = true := by simp only [encMsg, plA, plAs, Bool.and_self]
theorem noSh_Msg (x : MsgV) : noSh (encMsg true x) = true := by simp only [encMsg, noSh, noShs, Bool.and_self]
attribute [go_sem] ash_Msg plA_Msg noSh_Msg
def wMsg (x : MsgV) : Nat := x.text.size
def okMsg (x : MsgV) : Prop := x.text.size < 4611686018427387904
def meMsg (x : MsgV) (k : Int) : MsgV := { kind := k, num := k + 1, text := mText (k + 1 + 1) }
def mwMsg (x : MsgV) : Nat := 3
theorem mw10Msg (x : MsgV) : mwMsg x ≤ 10 * (1 + wMsg x) := by
  skip
  simp only [mwMsg, wMsg]; omega
def wMsgS (f : List MsgV) : Nat := f.length + sumL wMsg f
def okMsgS (f : List MsgV) : Prop := f.length < 4611686018427387904 ∧ ∀ x ∈ f, okMsg x
def mkMsgS (f : List MsgV) (k : Int) : List MsgV := mkL meMsg mwMsg f k
def mwMsgS (f : List MsgV) : Nat := sumL mwMsg f
theorem mw10MsgS (f : List MsgV) : mwMsgS f ≤ 10 * wMsgS f := sum10 mw10Msg f
theorem ashs_Msg (o : Bool) (f : List MsgV) : ashs (f.map (encMsg o)) = f.map (encMsg false) := ashs_map (g := (encMsg o)) (h := (encMsg false)) (fun x => ash_Msg o x) f
theorem plAs_Msg (o : Bool) (f : List MsgV) : plAs (f.map (encMsg o)) = true := plAs_map (g := (encMsg o)) (fun x => plA_Msg o x) f
theorem alen_Msg (o : Bool) (f : List MsgV) : ((f.map (encMsg o)).all fun u => alen u == 3) = true := alen_map (g := (encMsg o)) (fun x => rfl) f
theorem noShs_Msg (f : List MsgV) : noShs (f.map (encMsg true)) = true := noShs_map (g := (encMsg true)) (fun x => noSh_Msg x) f
theorem leafAs_Msg (o : Bool) (f : List MsgV) : leafAs (f.map (encMsg o)) = true := leafAs_map (g := (encMsg o)) (fun x => rfl) f
attribute [go_sem] ashs_Msg plAs_Msg alen_Msg noShs_Msg leafAs_Msg
def zeroMsg : AV := .agg [.int .i64 0, .int .i64 0, .str { data := #[] }]
theorem c_laws_szMsg (x : MsgV) (left : Int) {u : AV} (hu : u = encMsg false x) (hb : okMsg x) (h0 : decide (left < 0) = false) (h1 : left ≤ 1048576) : Sound P 16 [u, .int .i64 left] (.int .i64 (szW (wMsg x) left)) := by
  subst hu
  have hp : 0 ≤ left := by simpa using h0
  have hb0 := hb
  simp only [okMsg] at hb0
  have hw0 : IntKind.i64.wrap (left - (x.text.size : Int)) = left - (x.text.size : Int) := by rw [wrap_small] <;> omega
  refine snd_b hT Try.func16 Try.results16 Try.ntmps16 ?_
  (all_goals (have E0 := @encMsg.eq_1))
  repeat' (first | refine one ?_ | (refine two ?_ ?_; all_goals (intro h; try simp only [Bool.not_eq_true', Bool.not_eq_false', reduceCtorEq] at h)) | fail)
  all_goals (try clear E0)
  all_goals (
    (simp only [go_sem, *])
    first
    | done
    | (have hT : wMsg x = x.text.size := rfl
       simp only [decide_eq_true_eq, decide_eq_false_iff_not, Option.some.injEq, AV.int.injEq, true_and] at *
       rcases szW_cases (wMsg x) left with ⟨_, _⟩ | ⟨_, _⟩ <;> omega))
noncomputable abbrev ic_laws_szMsg := Con.mk (P := P) (f := 16) Try.call16 @c_laws_szMsg
attribute [instance] ic_laws_szMsg
theorem c_laws_toMsg (x : MsgV) {u : AV} (hu : u = encMsg false x) (hw : wMsg x ≤ 4194304) : Sound P 22 [u] (encMsg true x) := by
  subst hu
  clear hw
  refine snd_b hT Try.func22 Try.results22 Try.ntmps22 ?_
  (all_goals (have E0 := @encMsg.eq_1))
  repeat' (first | refine one ?_ | (refine two ?_ ?_; all_goals (intro h; try simp only [Bool.not_eq_true', Bool.not_eq_false', reduceCtorEq] at h)) | fail)
  all_goals (try clear E0)
  all_goals ((simp only [go_sem, *]); first | done | rfl)
noncomputable abbrev ic_laws_toMsg := Con.mk (P := P) (f := 22) Try.call22 @c_laws_toMsg
attribute [instance] ic_laws_toMsg
theorem c_laws_eqMsg (x : MsgV) {u v : AV} (hu : u = encMsg false x) (hv : v = encMsg false x) (hw : wMsg x ≤ 4194304) : Sound P 30 [u, v] (.bool true) := by
  subst hu hv
  clear hw
  refine snd_b hT Try.func30 Try.results30 Try.ntmps30 ?_
  (all_goals (have E0 := @encMsg.eq_1))
  repeat' (first | refine one ?_ | (refine two ?_ ?_; all_goals (intro h; try simp only [Bool.not_eq_true', Bool.not_eq_false', reduceCtorEq] at h)) | fail)
  all_goals (try clear E0)
  all_goals (simp only [go_sem, *])
noncomputable abbrev ic_laws_eqMsg := Con.mk (P := P) (f := 30) Try.call30 @c_laws_eqMsg
attribute [instance] ic_laws_eqMsg
end Go.Proofs.Ytbeijohahflkeaa
namespace Go.Proofs.Ytbeijohahflkeaa
open Go Go.RowKit Go.Bv
set_option linter.unusedSimpArgs false
set_option linter.unusedVariables false
set_option maxRecDepth 4000
set_option maxHeartbeats 1000000
structure ChangeV where
  kind : Int
  msg : MsgV
def encChange (o : Bool) (x : ChangeV) : AV := .agg [.int .i64 x.kind, (encMsg o) x.msg]
theorem ash_Change (o : Bool) (x : ChangeV) : ash (encChange o x) = encChange false x := by simp only [encChange, ash, ashs, ash_Msg]
theorem plA_Change (o : Bool) (x : ChangeV) : plA (encChange o x) = true := by simp only [encChange, plA, plAs, Bool.and_self, plA_Msg]
theorem noSh_Change (x : ChangeV) : noSh (encChange true x) = true := by simp only [encChange, noSh, noShs, Bool.and_self, noSh_Msg]
attribute [go_sem] ash_Change plA_Change noSh_Change
def wChange (x : ChangeV) : Nat := wMsg x.msg
def okChange (x : ChangeV) : Prop := okMsg x.msg
def meChange (x : ChangeV) (k : Int) : ChangeV := { kind := k, msg := { kind := k + 1, num := k + 1 + 1, text := mText (k + 1 + 1 + 1) } }
def mwChange (x : ChangeV) : Nat := 4
theorem mw10Change (x : ChangeV) : mwChange x ≤ 10 * (1 + wChange x) := by
  skip
  simp only [mwChange, wChange, wMsg]; omega
def wChangeS (f : List ChangeV) : Nat := f.length + sumL wChange f
def okChangeS (f : List ChangeV) : Prop := f.length < 4611686018427387904 ∧ ∀ x ∈ f, okChange x
def mkChangeS (f : List ChangeV) (k : Int) : List ChangeV := mkL meChange mwChange f k
def mwChangeS (f : List ChangeV) : Nat := sumL mwChange f
theorem mw10ChangeS (f : List ChangeV) : mwChangeS f ≤ 10 * wChangeS f := sum10 mw10Change f
theorem ashs_Change (o : Bool) (f : List ChangeV) : ashs (f.map (encChange o)) = f.map (encChange false) := ashs_map (g := (encChange o)) (h := (encChange false)) (fun x => ash_Change o x) f
theorem plAs_Change (o : Bool) (f : List ChangeV) : plAs (f.map (encChange o)) = true := plAs_map (g := (encChange o)) (fun x => plA_Change o x) f
theorem alen_Change (o : Bool) (f : List ChangeV) : ((f.map (encChange o)).all fun u => alen u == 4) = true := alen_map (g := (encChange o)) (fun x => rfl) f
theorem noShs_Change (f : List ChangeV) : noShs (f.map (encChange true)) = true := noShs_map (g := (encChange true)) (fun x => noSh_Change x) f
theorem leafAs_Change (o : Bool) (f : List ChangeV) : leafAs (f.map (encChange o)) = true := leafAs_map (g := (encChange o)) (fun x => rfl) f
attribute [go_sem] ashs_Change plAs_Change alen_Change noShs_Change leafAs_Change
def zeroChange : AV := .agg [.int .i64 0, .agg [.int .i64 0, .int .i64 0, .str { data := #[] }]]
theorem c_laws_szChange (x : ChangeV) (left : Int) {u : AV} (hu : u = encChange false x) (hb : okChange x) (h0 : decide (left < 0) = false) (h1 : left ≤ 1048576) : Sound P 5 [u, .int .i64 left] (.int .i64 (szW (wChange x) left)) := by
  subst hu
  have hp : 0 ≤ left := by simpa using h0
  have hb0 := hb
  simp only [okChange] at hb0
  have hl0 : szW (wMsg x.msg) left ≤ 1048576 := szW_le (by omega)
  refine snd_b hT Try.func5 Try.results5 Try.ntmps5 ?_
  (all_goals (have E0 := @encChange.eq_1))
  (all_goals (have E1 := @encMsg.eq_1))
  repeat' (first | refine one ?_ | (refine two ?_ ?_; all_goals (intro h; try simp only [Bool.not_eq_true', Bool.not_eq_false', reduceCtorEq] at h)) | fail)
  all_goals (try clear E0 E1)
  all_goals (
    (simp only [go_sem, *])
    first
    | done
    | (have hT : wChange x = wMsg x.msg := rfl
       simp only [decide_eq_true_eq, decide_eq_false_iff_not, Option.some.injEq, AV.int.injEq, true_and] at *
       rcases szW_cases (wMsg x.msg) left with ⟨_, _⟩ | ⟨_, _⟩ <;> rcases szW_cases (wChange x) left with ⟨_, _⟩ | ⟨_, _⟩ <;> omega))
noncomputable abbrev ic_laws_szChange := Con.mk (P := P) (f := 5) Try.call5 @c_laws_szChange
attribute [instance] ic_laws_szChange
theorem c_laws_toChange (x : ChangeV) {u : AV} (hu : u = encChange false x) (hw : wChange x ≤ 4194304) : Sound P 8 [u] (encChange true x) := by
  subst hu
  have hw1 : wMsg x.msg ≤ 4194304 := by simp only [wChange] at hw; omega
  clear hw
  refine snd_b hT Try.func8 Try.results8 Try.ntmps8 ?_
  (all_goals (have E0 := @encChange.eq_1))
  (all_goals (have E1 := @encMsg.eq_1))
  repeat' (first | refine one ?_ | (refine two ?_ ?_; all_goals (intro h; try simp only [Bool.not_eq_true', Bool.not_eq_false', reduceCtorEq] at h)) | fail)
  all_goals (try clear E0 E1)
  all_goals ((simp only [go_sem, *]); first | done | rfl)
noncomputable abbrev ic_laws_toChange := Con.mk (P := P) (f := 8) Try.call8 @c_laws_toChange
attribute [instance] ic_laws_toChange
end Go.Proofs.Ytbeijohahflkeaa
namespace Go.Proofs.Ytbeijohahflkeaa
open Go Go.RowKit Go.Bv
set_option linter.unusedSimpArgs false
set_option linter.unusedVariables false
set_option maxRecDepth 4000
set_option maxHeartbeats 1000000
/-! The walks that end. -/
theorem sGlCell12 {p q : Prop} (k : q) (h : q → p := by
  first
  | exact shAL (by exact i_l (f := 13) 0 _)
  | exact shAL (by exact i_bv (x := .tmp 0))
  | exact i1
  | fail) : p := h k
theorem wGlCell12_0 {p : Prop} (h : p := by
  have E0 := @encCell.eq_1
  have E1 := @encMsg.eq_1
  refine snd_M hT Try.func12 Try.results12 Try.ntmps12 ?_
  repeat' (first | refine sGlCell12 ?_ | (refine two ?_ ?_; all_goals (intro h; try simp only [Bool.not_eq_true', Bool.not_eq_false', reduceCtorEq] at h)) | fail)
  all_goals ((simp only [go_sem, *]); first | done | rfl)) : p := h
theorem wGlCell14_0 {p : Prop} (h : p := by
  have E0 := @encCell.eq_1
  have E1 := @encMsg.eq_1
  have E2 := @mtCell.eq_1
  refine snd_b hT Try.func14 Try.results14 Try.ntmps14 ?_
  exact wk) : p := h
structure CellV where
  val : MsgV
  version : Int
  closed : Bool
  line : List Int
  grants : List Int
def encCell (o : Bool) (x : CellV) : AV := .agg [(encMsg o) x.val, .int .i64 x.version, .bool x.closed, .lst o 1 (x.line.map encInt), .lst o 1 (x.grants.map encInt)]
theorem ash_Cell (o : Bool) (x : CellV) : ash (encCell o x) = encCell false x := by simp only [encCell, ash, ashs, ash_Msg, ashs_Int]
theorem plA_Cell (o : Bool) (x : CellV) : plA (encCell o x) = true := by simp only [encCell, plA, plAs, Bool.and_self, plA_Msg, plAs_Int]
theorem noSh_Cell (x : CellV) : noSh (encCell true x) = true := by simp only [encCell, noSh, noShs, Bool.and_self, noSh_Msg, noShs_Int]
attribute [go_sem] ash_Cell plA_Cell noSh_Cell
def wCell (x : CellV) : Nat := wMsg x.val + wIntS x.line + wIntS x.grants
def okCell (x : CellV) : Prop := okMsg x.val ∧ okIntS x.line ∧ okIntS x.grants
def meCell (x : CellV) (k : Int) : CellV := { val := { kind := k, num := k + 1, text := mText (k + 1 + 1) }, version := k + 1 + 1 + 1, closed := mBool (k + 1 + 1 + 1 + 1), line := mkIntS x.line (k + 1 + 1 + 1 + 1 + 1), grants := mkIntS x.grants (k + 1 + 1 + 1 + 1 + 1 + (mwIntS x.line : Nat)) }
def mwCell (x : CellV) : Nat := 5 + mwIntS x.line + mwIntS x.grants
theorem mw10Cell (x : CellV) : mwCell x ≤ 10 * (1 + wCell x) := by
  have := mw10IntS x.line
  have := mw10IntS x.grants
  simp only [mwCell, wCell, wMsg]; omega
def mtCell (x : CellV) (k : Int) : CellV := { x with line := mkIntS x.line (k), grants := mkIntS x.grants (k + (mwIntS x.line : Nat)) }
def mtCellW (x : CellV) : Nat := mwIntS x.line + mwIntS x.grants
theorem mt10Cell (x : CellV) : mtCellW x ≤ 10 * wCell x := by
  have := mw10IntS x.line
  have := mw10IntS x.grants
  simp only [mtCellW, wCell]; omega
def wCellS (f : List CellV) : Nat := f.length + sumL wCell f
def okCellS (f : List CellV) : Prop := f.length < 4611686018427387904 ∧ ∀ x ∈ f, okCell x
def mkCellS (f : List CellV) (k : Int) : List CellV := mkL meCell mwCell f k
def mwCellS (f : List CellV) : Nat := sumL mwCell f
theorem mw10CellS (f : List CellV) : mwCellS f ≤ 10 * wCellS f := sum10 mw10Cell f
theorem ashs_Cell (o : Bool) (f : List CellV) : ashs (f.map (encCell o)) = f.map (encCell false) := ashs_map (g := (encCell o)) (h := (encCell false)) (fun x => ash_Cell o x) f
theorem plAs_Cell (o : Bool) (f : List CellV) : plAs (f.map (encCell o)) = true := plAs_map (g := (encCell o)) (fun x => plA_Cell o x) f
theorem alen_Cell (o : Bool) (f : List CellV) : ((f.map (encCell o)).all fun u => alen u == 7) = true := alen_map (g := (encCell o)) (fun x => rfl) f
theorem noShs_Cell (f : List CellV) : noShs (f.map (encCell true)) = true := noShs_map (g := (encCell true)) (fun x => noSh_Cell x) f
attribute [go_sem] ashs_Cell plAs_Cell alen_Cell noShs_Cell
def zeroCell : AV := .agg [.agg [.int .i64 0, .int .i64 0, .str { data := #[] }], .int .i64 0, .bool false, .lst true 1 [], .lst true 1 []]
theorem c_laws_szCell (x : CellV) (left : Int) {u : AV} (hu : u = encCell false x) (hb : okCell x) (h0 : decide (left < 0) = false) (h1 : left ≤ 1048576) : Sound P 4 [u, .int .i64 left] (.int .i64 (szW (wCell x) left)) := by
  subst hu
  have hp : 0 ≤ left := by simpa using h0
  obtain ⟨hb0, hb1, hb2⟩ := hb
  have hl0 : szW (wMsg x.val) left ≤ 1048576 := szW_le (by omega)
  have hl1 : szW (wIntS x.line) (szW (wMsg x.val) left) ≤ 1048576 := szW_le (by omega)
  have hl2 : szW (wIntS x.grants) (szW (wIntS x.line) (szW (wMsg x.val) left)) ≤ 1048576 := szW_le (by omega)
  refine snd_b hT Try.func4 Try.results4 Try.ntmps4 ?_
  (all_goals (have E0 := @encCell.eq_1))
  (all_goals (have E1 := @encMsg.eq_1))
  repeat' (first | refine one ?_ | (refine two ?_ ?_; all_goals (intro h; try simp only [Bool.not_eq_true', Bool.not_eq_false', reduceCtorEq] at h)) | fail)
  all_goals (try clear E0 E1)
  all_goals (
    (simp only [go_sem, *])
    first
    | done
    | (have hT : wCell x = wMsg x.val + wIntS x.line + wIntS x.grants := rfl
       simp only [decide_eq_true_eq, decide_eq_false_iff_not, Option.some.injEq, AV.int.injEq, true_and] at *
       rcases szW_cases (wMsg x.val) left with ⟨_, _⟩ | ⟨_, _⟩ <;> rcases szW_cases (wIntS x.line) (szW (wMsg x.val) left) with ⟨_, _⟩ | ⟨_, _⟩ <;> rcases szW_cases (wIntS x.grants) (szW (wIntS x.line) (szW (wMsg x.val) left)) with ⟨_, _⟩ | ⟨_, _⟩ <;> rcases szW_cases (wCell x) left with ⟨_, _⟩ | ⟨_, _⟩ <;> omega))
noncomputable abbrev ic_laws_szCell := Con.mk (P := P) (f := 4) Try.call4 @c_laws_szCell
attribute [instance] ic_laws_szCell
theorem c_laws_toCell (x : CellV) {u : AV} (hu : u = encCell false x) (hw : wCell x ≤ 4194304) : Sound P 7 [u] (encCell true x) := by
  subst hu
  have hw0 : wMsg x.val ≤ 4194304 := by simp only [wCell] at hw; omega
  have hw3 : wIntS x.line ≤ 4194304 := by simp only [wCell] at hw; omega
  have hw4 : wIntS x.grants ≤ 4194304 := by simp only [wCell] at hw; omega
  clear hw
  refine snd_b hT Try.func7 Try.results7 Try.ntmps7 ?_
  (all_goals (have E0 := @encCell.eq_1))
  (all_goals (have E1 := @encMsg.eq_1))
  repeat' (first | refine one ?_ | (refine two ?_ ?_; all_goals (intro h; try simp only [Bool.not_eq_true', Bool.not_eq_false', reduceCtorEq] at h)) | fail)
  all_goals (try clear E0 E1)
  all_goals ((simp only [go_sem, *]); first | done | rfl)
noncomputable abbrev ic_laws_toCell := Con.mk (P := P) (f := 7) Try.call7 @c_laws_toCell
attribute [instance] ic_laws_toCell
theorem c_laws_eqCell (x : CellV) {u v : AV} (hu : u = encCell false x) (hv : v = encCell false x) (hw : wCell x ≤ 4194304) : Sound P 10 [u, v] (.bool true) := by
  subst hu hv
  have hw0 : wMsg x.val ≤ 4194304 := by simp only [wCell] at hw; omega
  have hw3 : wIntS x.line ≤ 4194304 := by simp only [wCell] at hw; omega
  have hw4 : wIntS x.grants ≤ 4194304 := by simp only [wCell] at hw; omega
  clear hw
  refine snd_b hT Try.func10 Try.results10 Try.ntmps10 ?_
  (all_goals (have E0 := @encCell.eq_1))
  (all_goals (have E1 := @encMsg.eq_1))
  repeat' (first | refine one ?_ | (refine two ?_ ?_; all_goals (intro h; try simp only [Bool.not_eq_true', Bool.not_eq_false', reduceCtorEq] at h)) | fail)
  all_goals (try clear E0 E1)
  all_goals (simp only [go_sem, *])
noncomputable abbrev ic_laws_eqCell := Con.mk (P := P) (f := 10) Try.call10 @c_laws_eqCell
attribute [instance] ic_laws_eqCell
-- LENT m_laws_markCell 0
theorem m_laws_markCell (x : CellV) (k : Int) {u : AV} (hu : u = encCell true x) (hw : wCell x ≤ 4194304) (h0 : 0 ≤ k) (h1 : k + (mtCellW x : Nat) ≤ 1099511627776) :
    SoundM P 12 [u, .int .i64 k] 0 (.int .i64 (k + (mtCellW x : Nat))) (encCell true (mtCell x k)) := by
  subst hu
  have hmt : mtCellW x = mwIntS x.line + mwIntS x.grants := rfl
  have ht0 := mw10IntS x.line
  have hy0 : wIntS x.line ≤ 4194304 := by simp only [wCell] at hw; omega
  have ht1 := mw10IntS x.grants
  have hy1 : wIntS x.grants ≤ 4194304 := by simp only [wCell] at hw; omega
  have hn0 : 0 ≤ k := by omega
  have hc0 : k + (mwIntS x.line : Nat) ≤ 1099511627776 := by omega
  have hn1 : 0 ≤ k + ((mwIntS x.line : Nat) : Int) := by omega
  have hc1 : k + ((mwIntS x.line : Nat) : Int) + (mwIntS x.grants : Nat) ≤ 1099511627776 := by omega
  have hret : k + ((mwIntS x.line : Nat) : Int) + ((mwIntS x.grants : Nat) : Int) = k + ((mtCellW x : Nat) : Int) := by omega
  clear hw hmt
  exact wGlCell12_0
noncomputable abbrev im_laws_markCell := ConL.mk (P := P) (f := 12) (t := 0) Try.call12 @m_laws_markCell
attribute [instance] im_laws_markCell
theorem c_laws_heldCell (x : CellV) (k : Int) {u : AV} (hu : u = encCell false (mtCell x k)) (hw : wCell x ≤ 4194304) (h0 : 0 ≤ k) (h1 : k + (mtCellW x : Nat) ≤ 1099511627776) :
    Sound P 14 [u, .int .i64 k] (.int .i64 (k + (mtCellW x : Nat))) := by
  subst hu
  have hmt : mtCellW x = mwIntS x.line + mwIntS x.grants := rfl
  have ht0 := mw10IntS x.line
  have hy0 : wIntS x.line ≤ 4194304 := by simp only [wCell] at hw; omega
  have hn0 : 0 ≤ k := by omega
  have hc0 : k + (mwIntS x.line : Nat) ≤ 1099511627776 := by omega
  have hg0 : decide (k + ((mwIntS x.line : Nat) : Int) < 0) = false := by simp; omega
  have ht1 := mw10IntS x.grants
  have hy1 : wIntS x.grants ≤ 4194304 := by simp only [wCell] at hw; omega
  have hn1 : 0 ≤ k + ((mwIntS x.line : Nat) : Int) := by omega
  have hc1 : k + ((mwIntS x.line : Nat) : Int) + (mwIntS x.grants : Nat) ≤ 1099511627776 := by omega
  have hg1 : decide (k + ((mwIntS x.line : Nat) : Int) + ((mwIntS x.grants : Nat) : Int) < 0) = false := by simp; omega
  have hret : k + ((mwIntS x.line : Nat) : Int) + ((mwIntS x.grants : Nat) : Int) = k + ((mtCellW x : Nat) : Int) := by omega
  have hgr : decide (k + ((mtCellW x : Nat) : Int) < 0) = false := by simp; omega
  clear hw hmt
  exact wGlCell14_0
noncomputable abbrev ic_laws_heldCell := Con.mk (P := P) (f := 14) Try.call14 @c_laws_heldCell
attribute [instance] ic_laws_heldCell
end Go.Proofs.Ytbeijohahflkeaa
