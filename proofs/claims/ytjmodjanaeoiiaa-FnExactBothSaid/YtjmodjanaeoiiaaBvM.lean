/- Quiet operations, the rest: arithmetic, texts, slices, lengths; all in one theorem. Generic: no program. -/
import Derived.Test.YtjmodjanaeoiiaaBvL
namespace Go.Bv
open Go Go.RowKit
set_option linter.unusedSimpArgs false
set_option linter.unusedVariables false
section
variable {K : Nat → Prop} {w0 : World} {Z : Nat → Prop} {Sc L : List CV} {a : Act} {w : World} {P : Program} {Γ : Tab}

theorem move_sound (h : Good K w0 Z Sc L a w) {o : Oper} {x : Operand} (ho : o.op = .move x) {v : AV} (hv : qv Γ (ers Sc) o = some v) : QS P a w Z Sc o v := by
  simp only [qv, ho] at hv
  obtain ⟨c, hc, hval, hrd, hnt⟩ := h.rd hv
  refine ⟨c, hc, ?_, hrd, hnt⟩
  unfold execOp
  simp [ho, hval]

theorem pick_sound (h : Good K w0 Z Sc L a w) {o : Oper} {x y z : Operand} (ho : o.op = .pick x y z) {v : AV} (hv : qv Γ (ers Sc) o = some v) : QS P a w Z Sc o v := by
  simp only [qv, ho] at hv
  cases hx : ard (ers Sc) x with
  | none => simp [hx] at hv
  | some u =>
    obtain ⟨c, hc, hval, _, _⟩ := h.rd hx
    simp only [hx] at hv
    cases u <;> try (cases hv; done)
    rename_i t
    have := er_bool hc; subst this
    have hb : a.eval x = .bool t := by rw [← hval]; rfl
    cases t
    · simp only [Bool.false_eq_true, if_false] at hv
      obtain ⟨c, hc, hval, hrd, hnt⟩ := h.rd hv
      exact ⟨c, hc, by unfold execOp; simp [ho, hb, asBool, hval], hrd, hnt⟩
    · simp only [if_true] at hv
      obtain ⟨c, hc, hval, hrd, hnt⟩ := h.rd hv
      exact ⟨c, hc, by unfold execOp; simp [ho, hb, asBool, hval], hrd, hnt⟩

theorem intBin_run {op : BinOp} {k : IntKind} {x y : Int} {v : AV} (hv : intBin op k x y = some v) (hs : op ≠ .shl ∧ op ≠ .shr) (T : Nat) :
    ∃ c, er c = v ∧ (binOp op T (.int k x) (.int k y)).run P w = .ok (val c) w ∧ ∀ Sc Z, Rd w Z Sc c ∧ (∀ xs, c ≠ .tup xs) := by
  have hi : ∀ m : Int, v = .int k m → (binOp op T (.int k x) (.int k y)).run P w = .ok (.int k m) w → ∃ c, er c = v ∧ (binOp op T (.int k x) (.int k y)).run P w = .ok (val c) w ∧ ∀ Sc Z, Rd w Z Sc c ∧ (∀ xs, c ≠ .tup xs) :=
    fun m e1 e2 => ⟨.int k m, by rw [e1]; rfl, by rw [e2]; rfl, fun _ _ => ⟨rd_int _ _, by simp⟩⟩
  have hb : ∀ m : Bool, v = .bool m → (binOp op T (.int k x) (.int k y)).run P w = .ok (.bool m) w → ∃ c, er c = v ∧ (binOp op T (.int k x) (.int k y)).run P w = .ok (val c) w ∧ ∀ Sc Z, Rd w Z Sc c ∧ (∀ xs, c ≠ .tup xs) :=
    fun m e1 e2 => ⟨.bool m, by rw [e1]; rfl, by rw [e2]; rfl, fun _ _ => ⟨rd_bool _, by simp⟩⟩
  cases op <;> simp only [intBin] at hv <;> try (cases hv; done)
  case add => simp only [Option.some.injEq] at hv; exact hi _ hv.symm (by simp [binOp, Op.intArith])
  case sub => simp only [Option.some.injEq] at hv; exact hi _ hv.symm (by simp [binOp, Op.intArith])
  case mul => simp only [Option.some.injEq] at hv; exact hi _ hv.symm (by simp [binOp, Op.intArith])
  case quo =>
    split at hv
    · cases hv
    · rename_i h0; simp only [Option.some.injEq] at hv; exact hi _ hv.symm (by simp [binOp, Op.intDiv, h0])
  case rem =>
    split at hv
    · cases hv
    · rename_i h0; simp only [Option.some.injEq] at hv; exact hi _ hv.symm (by simp [binOp, Op.intDiv, h0])
  case and => simp only [Option.some.injEq] at hv; exact hi _ hv.symm (by simp [binOp, Op.intBits])
  case xor => simp only [Option.some.injEq] at hv; exact hi _ hv.symm (by simp [binOp, Op.intBits])
  all_goals simp only [Option.some.injEq] at hv
  case eql => exact hb _ hv.symm (by simp [binOp, Op.intCmp])
  case neq => exact hb _ hv.symm (by simp [binOp, Op.intCmp])
  case lss => exact hb _ hv.symm (by simp [binOp, Op.intCmp])
  case leq => exact hb _ hv.symm (by simp [binOp, Op.intCmp])
  case gtr => exact hb _ hv.symm (by simp [binOp, Op.intCmp])
  case geq => exact hb _ hv.symm (by simp [binOp, Op.intCmp])

theorem strBin_run {op : BinOp} {x y : ByteArray} {v : AV} (hv : strBin op x y = some v) (T : Nat) :
    ∃ c, er c = v ∧ (binOp op T (.string x) (.string y)).run P w = .ok (val c) w ∧ ∀ Sc Z, Rd w Z Sc c ∧ (∀ xs, c ≠ .tup xs) := by
  cases op <;> simp only [strBin] at hv <;> try (cases hv; done)
  · split at hv
    case isFalse => cases hv
    rename_i h0
    simp only [Option.some.injEq] at hv; subst hv
    refine ⟨.str _, rfl, ?_, fun _ _ => ⟨rd_str _, by simp⟩⟩
    have : ¬ (((x.size + y.size : Nat) : Int) > IntKind.i64.max) := by
      have h1 : IntKind.i64.max = 9223372036854775807 := by simp [IntKind.max, IntKind.signed, IntKind.bits]
      rw [h1]; omega
    simp only [binOp, Op.stringOp, if_neg this, Sem.run_pure, val_str]
  · simp only [Option.some.injEq] at hv; subst hv
    exact ⟨.bool _, rfl, by simp [binOp, Op.stringOp, val_bool], fun _ _ => ⟨rd_bool _, by simp⟩⟩
  · simp only [Option.some.injEq] at hv; subst hv
    exact ⟨.bool _, rfl, by simp [binOp, Op.stringOp, val_bool], fun _ _ => ⟨rd_bool _, by simp⟩⟩

theorem run_equalIn_bool {T : Nat} (hu : P.underlying T = some .bool) (d : Nat) (x y : Bool) : (Op.equalIn (d + 1) T (.bool x) (.bool y)).run P w = .ok (x == y) w := by
  simp only [Op.equalIn, Sem.run_bind, run_underlying hu, Result.andThen_ok, Sem.run_pure]
theorem run_equal_bool {T : Nat} (hu : P.underlying T = some .bool) (x y : Bool) : (Op.equal T (.bool x) (.bool y)).run P w = .ok (x == y) w :=
  run_equalIn_bool hu 9999 x y
theorem binOp_sound (hT : TabOk P Γ) (h : Good K w0 Z Sc L a w) {o : Oper} {op : BinOp} {T T' : Nat} {x y : Operand} (ho : o.op = .binOp op T x y T') {v : AV} (hv : qv Γ (ers Sc) o = some v) : QS P a w Z Sc o v := by
  simp only [qv, ho] at hv
  cases hx : ard (ers Sc) x with
  | none => simp [hx] at hv
  | some u =>
    cases hy : ard (ers Sc) y with
    | none => simp [hx, hy] at hv
    | some u' =>
      simp only [hx, hy] at hv
      obtain ⟨c, hc, hval, _, _⟩ := h.rd hx
      obtain ⟨c', hc', hval', _, _⟩ := h.rd hy
      unfold QS execOp
      simp only [ho]
      rw [← hval, ← hval']
      unfold binA at hv
      split at hv
      · rename_i k n k' n'
        have := er_int hc; subst this
        have := er_int hc'; subst this
        have hg : ∀ w, (eqGuard op T x y (.int k n) (.int k' n')).run P w = .ok () w := by intro w; simp only [eqGuard]; split <;> rfl
        split at hv
        · rename_i hsh
          subst hsh
          split at hv
          case isFalse => cases hv
          rename_i h0
          simp only [Option.some.injEq] at hv; subst hv
          refine ⟨.int _ _, rfl, ?_, rd_int _ _, by simp⟩
          simp only [Sem.run_bind, hg, Result.andThen_ok, val_int, binOp, Op.shift, if_neg (show ¬ n' < 0 by omega), Sem.run_pure]
        · rename_i hsh
          split at hv
          case isFalse => cases hv
          rename_i hk; subst hk
          by_cases hl : op = .shl
          · subst hl; simp [intBin] at hv
          · obtain ⟨c, h1, h2, h3⟩ := intBin_run (P := P) (w := w) hv ⟨hl, hsh⟩ T
            exact ⟨c, h1, by simp only [Sem.run_bind, hg, Result.andThen_ok, val_int, h2, Sem.run_pure], (h3 Sc Z).1, (h3 Sc Z).2⟩
      · rename_i s s'
        have := er_str hc; subst this
        have := er_str hc'; subst this
        have hg : ∀ w, (eqGuard op T x y (.string s) (.string s')).run P w = .ok () w := by intro w; simp only [eqGuard]; split <;> rfl
        obtain ⟨c, h1, h2, h3⟩ := strBin_run (P := P) (w := w) hv T
        exact ⟨c, h1, by simp only [Sem.run_bind, hg, Result.andThen_ok, val_str, h2, Sem.run_pure], (h3 Sc Z).1, (h3 Sc Z).2⟩
      · rename_i b b'
        have := er_bool hc; subst this
        have := er_bool hc'; subst this
        have hg : ∀ w, (eqGuard op T x y (.bool b) (.bool b')).run P w = .ok () w := by intro w; simp only [eqGuard]; split <;> rfl
        split at hv
        case isFalse => cases hv
        rename_i hk
        have hu := hT.bool T hk
        cases op <;> simp only at hv <;> try (cases hv; done)
        all_goals
          simp only [Option.some.injEq] at hv; subst hv
          refine ⟨.bool _, rfl, ?_, rd_bool _, by simp⟩
          have he := run_equal_bool (P := P) (w := w) hu b b'
          simp only [Sem.run_bind, hg, Result.andThen_ok, val_bool, binOp, he, Sem.run_pure]
      · cases hv

theorem unOp_sound (h : Good K w0 Z Sc L a w) {o : Oper} {op : UnOp} {T : Nat} {x : Operand} (ho : o.op = .unOp op T x) {v : AV} (hv : qv Γ (ers Sc) o = some v) : QS P a w Z Sc o v := by
  simp only [qv, ho] at hv
  cases hx : ard (ers Sc) x with
  | none => simp [hx] at hv
  | some u =>
    simp only [hx] at hv
    obtain ⟨c, hc, hval, _, _⟩ := h.rd hx
    unfold QS execOp
    simp only [ho]
    rw [← hval]
    unfold unA at hv
    split at hv
    · have := er_bool hc; subst this
      simp only [Option.some.injEq] at hv; subst hv
      exact ⟨.bool _, rfl, by simp [val_bool, Op.unary], rd_bool _, by simp⟩
    · have := er_int hc; subst this
      simp only [Option.some.injEq] at hv; subst hv
      exact ⟨.int _ _, rfl, by simp [val_int, Op.unary, Op.intArith], rd_int _ _, by simp⟩
    · cases hv

theorem run_und (hT : TabOk P Γ) {T : Nat} (hk : Γ.kind T ≠ .no) : ∃ d, P.underlying T = some d := by
  cases e : Γ.kind T with
  | int k => exact ⟨_, hT.int T k e⟩
  | bool => exact ⟨_, hT.bool T e⟩
  | str => exact ⟨_, hT.str T e⟩
  | sl E => exact ⟨_, hT.sl T E e⟩
  | st fs => obtain ⟨F, h1, _⟩ := hT.st T fs e; exact ⟨_, h1⟩
  | ptr => obtain ⟨E, h1⟩ := hT.ptr T e; exact ⟨_, h1⟩
  | no => exact absurd e hk

theorem conv_sound (hT : TabOk P Γ) (h : Good K w0 Z Sc L a w) {o : Oper} {s d : Nat} {x : Operand} (ho : o.op = .convert s d x) {v : AV} (hv : qv Γ (ers Sc) o = some v) : QS P a w Z Sc o v := by
  simp only [qv, ho] at hv
  cases hx : ard (ers Sc) x with
  | none => simp [hx] at hv
  | some u =>
    simp only [hx] at hv
    split at hv
    case isFalse => cases hv
    rename_i hks
    obtain ⟨c, hc, hval, _, _⟩ := h.rd hx
    unfold QS execOp
    simp only [ho]
    rw [← hval]
    obtain ⟨ds, hds⟩ := run_und hT hks
    unfold convA at hv
    split at hv
    · rename_i k k' n hk
      have := er_int hc; subst this
      simp only [Option.some.injEq] at hv; subst hv
      refine ⟨.int _ _, rfl, ?_, rd_int _ _, by simp⟩
      simp [val_int, convert, run_underlying hds, run_underlying (hT.int d k hk), Conv.intToInt]
    · rename_i k' n hk
      have := er_int hc; subst this
      simp only [Option.some.injEq] at hv; subst hv
      refine ⟨.str _, rfl, ?_, rd_str _, by simp⟩
      simp [val_int, val_str, convert, run_underlying hds, run_underlying (hT.str d hk), Conv.intToString]
    · rename_i s' hk
      have := er_str hc; subst this
      simp only [Option.some.injEq] at hv; subst hv
      refine ⟨.str _, rfl, ?_, rd_str _, by simp⟩
      simp [val_str, convert, run_underlying hds, run_underlying (hT.str d hk)]
    · cases hv

theorem index_sound (hT : TabOk P Γ) (h : Good K w0 Z Sc L a w) {o : Oper} {T : Nat} {x i : Operand} (ho : o.op = .index T x i) {v : AV} (hv : qv Γ (ers Sc) o = some v) : QS P a w Z Sc o v := by
  simp only [qv, ho] at hv
  split at hv
  case h_2 => cases hv
  rename_i s k n hk hx hi
  obtain ⟨c, hc, hval, _, _⟩ := h.rd hx
  obtain ⟨c', hc', hval', _, _⟩ := h.rd hi
  have := er_str hc; subst this
  have := er_int hc'; subst this
  split at hv
  case isFalse => cases hv
  rename_i h0
  cases hb : s[n.toNat]? with
  | none => simp [hb] at hv
  | some b =>
    simp only [hb, Option.some.injEq] at hv
    subst hv
    unfold QS execOp
    simp only [ho]
    rw [← hval, ← hval']
    refine ⟨.int _ _, rfl, ?_, rd_int _ _, by simp⟩
    simp [val_str, val_int, Instr.index, asIntOf, run_underlying (hT.str T hk), h0, hb]

end
end Go.Bv
