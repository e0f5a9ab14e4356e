/- All quiet operations in one theorem. Generic: no program. -/
import Derived.Test.YtjmodjanaeoiiaaBvN
namespace Go.Bv
open Go Go.RowKit
set_option linter.unusedSimpArgs false
set_option linter.unusedVariables false
section
variable {K : Nat → Prop} {w0 : World} {Z : Nat → Prop} {Sc L : List CV} {a : Act} {w : World} {P : Program} {Γ : Tab}

theorem val_of_val1 {x : CV} (h : ∀ ys, x ≠ .tup ys) : val x = val1 x := by cases x <;> first | rfl | exact absurd rfl (h _)
theorem flats_one : ∀ {cs : List CV}, (∀ c ∈ cs, ∀ xs, c ≠ .agg xs) → flats cs = cs.map val1
  | [], _ => by simp [flats]
  | c :: cs, h => by
    have ih := flats_one (cs := cs) fun d hd => h d (List.mem_cons_of_mem _ hd)
    simp only [flats, flat_one (h c List.mem_cons_self), ih, List.map_cons, List.cons_append, List.nil_append]
theorem ers_one {cs : List CV} {x : AV} (h : ers cs = [x]) : ∃ c, cs = [c] ∧ er c = x := by
  cases cs with
  | nil => simp [ers] at h
  | cons c cs => cases cs with
    | nil => simp only [ers, List.cons.injEq, and_true] at h; exact ⟨c, rfl, h⟩
    | cons d ds => simp [ers] at h
theorem ers_two {cs : List CV} {x y : AV} (h : ers cs = [x, y]) : ∃ c d, cs = [c, d] ∧ er c = x ∧ er d = y := by
  cases cs with
  | nil => simp [ers] at h
  | cons c cs =>
    simp only [ers, List.cons.injEq] at h
    obtain ⟨d, rfl, hd⟩ := ers_one h.2
    exact ⟨c, d, rfl, h.1, hd⟩
theorem ers_three {cs : List CV} {x y z : AV} (h : ers cs = [x, y, z]) : ∃ c d e, cs = [c, d, e] ∧ er c = x ∧ er d = y ∧ er e = z := by
  cases cs with
  | nil => simp [ers] at h
  | cons c cs =>
    simp only [ers, List.cons.injEq] at h
    obtain ⟨d, e, rfl, hd⟩ := ers_two h.2
    exact ⟨c, d, e, rfl, h.1, hd⟩


theorem func_sound (h : Good K w0 Z Sc L a w) {o : Oper} {f : Nat} {first caps : Array Operand} (ho : o.op = .makeFunc (.func f) first caps) {v : AV} (hv : qv Γ (ers Sc) o = some v) : QS P a w Z Sc o v := by
  simp only [qv, ho] at hv
  split at hv
  case isFalse => cases hv
  rename_i hf
  cases hcs : ards (ers Sc) caps.toList with
  | none => simp [hcs] at hv
  | some vs =>
    simp only [hcs] at hv
    split at hv
    case isFalse => cases hv
    rename_i hall
    simp only [Option.some.injEq] at hv
    subst hv
    obtain ⟨cs, h1, h2, h3⟩ := ards_sound h _ _ hcs
    have hna : ∀ c ∈ cs, ∀ xs, c ≠ .agg xs := by
      rintro c hc xs rfl
      rw [← h1, List.all_eq_true] at hall
      have := hall (er (.agg xs)) (by rw [ers_eq]; exact List.mem_map_of_mem hc)
      simp [er] at this
    have hfl : flats cs = caps.toList.map a.eval := by
      rw [flats_one hna, ← h2]
      apply List.map_congr_left
      intro c hc
      exact (val_of_val1 (h3 c hc).2).symm
    refine ⟨.fn f cs, by simp [er, h1], ?_, ⟨?_, ?_, ?_, ?_, .inr (by simp [NoOwn])⟩, by simp⟩
    · unfold execOp
      have e1 : first = #[] := by simpa using hf
      simp only [ho, Instr.makeFunc, Sem.run_bind, Sem.run_pure, Result.andThen_ok, e1]
      have : val (.fn f cs) = .func (.func f) #[] (caps.map a.eval) := by
        simp only [val, val1, flat, hfl, List.headD_cons]
        congr 1
        apply Array.ext'
        simp
      rw [this]
      simp
    · simp only [RefOk]; exact (refOkL_iff cs).2 fun c hc => (h3 c hc).1.refOk
    · simp only [Wf]; exact (wfL_iff cs).2 fun c hc => (h3 c hc).1.wf
    · simp only [Ok]
      refine ⟨?_, (okL_iff cs).2 fun c hc => (h3 c hc).1.ok⟩
      exact List.eq_nil_iff_forall_not_mem.2 fun b hb => by
        obtain ⟨c, hc, hbc⟩ := mem_fps.1 hb
        rw [(h3 c hc).1.fp] at hbc; cases hbc
    · simp only [fp]
      exact List.eq_nil_iff_forall_not_mem.2 fun b hb => by
        obtain ⟨c, hc, hbc⟩ := mem_fps.1 hb
        rw [(h3 c hc).1.fp] at hbc; cases hbc

theorem nil_sound (h : Good K w0 Z Sc L a w) {o : Oper} {x : Operand} (ho : o.op = .nilCheck x) {v : AV} (hv : qv Γ (ers Sc) o = some v) : QS P a w Z Sc o v := by
  simp only [qv, ho] at hv
  cases hx : ard (ers Sc) x with
  | none => simp [hx] at hv
  | some u =>
    obtain ⟨c, hc, hval, hrd, hnt⟩ := h.rd hx
    simp only [hx] at hv
    unfold QS execOp
    simp only [ho]
    cases u <;> try (cases hv; done)
    · rename_i f vs
      obtain ⟨xs, rfl, _⟩ := er_fn hc
      simp only [Option.some.injEq] at hv; subst hv
      refine ⟨_, hc, ?_, hrd, hnt⟩
      rw [← hval]
      simp [val, val1, flat]
    · rename_i y
      obtain ⟨ad, z, rfl, _⟩ := er_ip hc
      simp only [Option.some.injEq] at hv; subst hv
      refine ⟨_, hc, ?_, hrd, hnt⟩
      rw [← hval]
      simp [val, val1, flat]
    · rename_i r p
      obtain ⟨ad, rfl⟩ := er_at hc
      simp only [Option.some.injEq] at hv; subst hv
      refine ⟨_, hc, ?_, hrd, hnt⟩
      rw [← hval]
      simp [val, val1, flat]

theorem run_builtin {b : Builtin} {args : Array Operand} {argTypes : Array TypeId} {o : Oper} (ho : o.op = .call { callee := .builtin b, args, argTypes }) {vs : List Value} (hvs : args.toList.map a.eval = vs) :
    execOp a.eval o = builtin b argTypes o.type (args.map fun | .const _ => true | _ => false) vs.toArray := by
  unfold execOp
  simp only [ho, resolve, invoke]
  have : args.map a.eval = vs.toArray := by apply Array.ext'; simp [hvs]
  rw [this]
  rfl

theorem min_run {vs : List AV} {v : AV} (hv : minA vs = some v) {cs : List CV} (h1 : ers cs = vs) (ty : TypeId) (ats : Array TypeId) :
    ∃ k n, v = .int k n ∧ (Builtin.min_ ats ty (cs.map val).toArray).run P w = .ok (.int k n) w := by
  unfold minA at hv
  split at hv
  · rename_i k x k' y
    obtain ⟨c1, c2, rfl, e1, e2⟩ := ers_two h1
    have := er_int e1; subst this
    have := er_int e2; subst this
    simp only [Option.some.injEq] at hv; subst hv
    exact ⟨_, _, rfl, by simp [Builtin.min_, Builtin.min2, val_int]⟩
  · rename_i k x k' y k'' z
    obtain ⟨c1, c2, c3, rfl, e1, e2, e3⟩ := ers_three h1
    have := er_int e1; subst this
    have := er_int e2; subst this
    have := er_int e3; subst this
    simp only [Option.some.injEq] at hv; subst hv
    exact ⟨_, _, rfl, by simp [Builtin.min_, Builtin.min2, val_int]⟩
  · cases hv
theorem max_run {vs : List AV} {v : AV} (hv : maxA vs = some v) {cs : List CV} (h1 : ers cs = vs) (ty : TypeId) (ats : Array TypeId) :
    ∃ k n, v = .int k n ∧ (Builtin.max_ ats ty (cs.map val).toArray).run P w = .ok (.int k n) w := by
  unfold maxA at hv
  split at hv
  · rename_i k x k' y
    obtain ⟨c1, c2, rfl, e1, e2⟩ := ers_two h1
    have := er_int e1; subst this
    have := er_int e2; subst this
    simp only [Option.some.injEq] at hv; subst hv
    exact ⟨_, _, rfl, by simp [Builtin.max_, Builtin.max2, val_int]⟩
  · rename_i k x k' y k'' z
    obtain ⟨c1, c2, c3, rfl, e1, e2, e3⟩ := ers_three h1
    have := er_int e1; subst this
    have := er_int e2; subst this
    have := er_int e3; subst this
    simp only [Option.some.injEq] at hv; subst hv
    exact ⟨_, _, rfl, by simp [Builtin.max_, Builtin.max2, val_int]⟩
  · cases hv

theorem builtin_sound (hT : TabOk P Γ) (h : Good K w0 Z Sc L a w) {o : Oper} {b : Builtin} {args : Array Operand} {argTypes : Array TypeId} (ho : o.op = .call { callee := .builtin b, args, argTypes }) {v : AV}
    (hv : qv Γ (ers Sc) o = some v) : QS P a w Z Sc o v := by
  simp only [qv, ho] at hv
  cases hvs : ards (ers Sc) args.toList with
  | none => simp [hvs] at hv
  | some vs =>
    simp only [hvs] at hv
    obtain ⟨cs, h1, h2, h3⟩ := ards_sound h _ _ hvs
    unfold QS
    rw [run_builtin ho h2.symm]
    have hint : ∀ k n, v = .int k n → (builtin b argTypes o.type (args.map fun | .const _ => true | _ => false) (cs.map val).toArray).run P w = .ok (.value (.int k n)) w →
        ∃ c, er c = v ∧ (builtin b argTypes o.type (args.map fun | .const _ => true | _ => false) (cs.map val).toArray).run P w = .ok (.value (val c)) w ∧ Rd w Z Sc c ∧ (∀ xs, c ≠ .tup xs) :=
      fun k n e1 e2 => ⟨.int k n, by rw [e1]; rfl, e2, rd_int _ _, by simp⟩
    cases b <;> simp only at hv <;> try (cases hv; done)
    · -- len
      split at hv
      case h_2 => cases hv
      rename_i x T hT0
      obtain ⟨c, rfl, e1⟩ := ers_one h1
      clear h1 hvs
      split at hv
      · rename_i s hk
        have := er_str e1; subst this
        simp only [Option.some.injEq] at hv
        refine hint _ _ hv.symm ?_
        simp [builtin, Builtin.len_, hT0, run_underlying (hT.str T hk), val_str, goInt]
      · rename_i E ob s0 ys hk
        obtain ⟨A, cap, xs, rfl, rfl⟩ := er_lst e1
        simp only [Option.some.injEq] at hv
        refine hint _ _ hv.symm ?_
        simp [builtin, Builtin.len_, hT0, run_underlying (hT.sl T E hk), val, val1, flat, goInt, ers_eq]
      · rename_i E r p l0 n hk
        obtain ⟨cv, rfl⟩ := er_ref e1
        have hr := (h3 (.ref r p l0 n cv) List.mem_cons_self).1.refOk
        simp only [RefOk] at hr
        obtain ⟨x0, s, A, cap, xs, lo', hx0, hp, hcg, hlo, A', c', rfl, _⟩ := hr
        simp only [Option.some.injEq] at hv
        refine hint _ _ hv.symm ?_
        simp [builtin, Builtin.len_, hT0, run_underlying (hT.sl T E hk), val, val1, flat, goInt]
      · cases hv
    · -- max
      obtain ⟨k, n, e1, e2⟩ := max_run (P := P) (w := w) hv h1 o.type argTypes
      refine hint k n e1 ?_
      simp only [builtin, Sem.run_bind, e2, Result.andThen_ok, Sem.run_pure]
    · -- min
      obtain ⟨k, n, e1, e2⟩ := min_run (P := P) (w := w) hv h1 o.type argTypes
      refine hint k n e1 ?_
      simp only [builtin, Sem.run_bind, e2, Result.andThen_ok, Sem.run_pure]

/-- **Every quiet operation.** -/
theorem qv_sound (hT : TabOk P Γ) (h : Good K w0 Z Sc L a w) {o : Oper} {v : AV} (hv : qv Γ (ers Sc) o = some v) : QS P a w Z Sc o v := by
  cases ho : o.op with
  | move x => exact move_sound h ho hv
  | pick x y z => exact pick_sound h ho hv
  | load T x => exact load_sound hT h ho hv
  | fieldAddr T x f => exact fieldAddr_sound hT h ho hv
  | indexAddr T x i => exact indexAddr_sound hT h ho hv
  | field T x f => exact field_sound hT h ho hv
  | index T x i => exact index_sound hT h ho hv
  | binOp op T x y T' => exact binOp_sound hT h ho hv
  | unOp op T x => exact unOp_sound h ho hv
  | convert s d x => exact conv_sound hT h ho hv
  | slice T x lo hi mx =>
    cases mx with
    | none => exact slice_sound hT h ho hv
    | some m => simp [qv, ho] at hv
  | makeFunc fn first caps =>
    cases fn with
    | func f => exact func_sound h ho hv
    | _ => simp [qv, ho] at hv
  | nilCheck x => exact nil_sound h ho hv
  | call c =>
    obtain ⟨callee, args, argTypes⟩ := c
    cases callee with
    | builtin b => exact builtin_sound hT h ho hv
    | _ => simp [qv, ho] at hv
  | _ => simp [qv, ho] at hv
end
end Go.Bv
