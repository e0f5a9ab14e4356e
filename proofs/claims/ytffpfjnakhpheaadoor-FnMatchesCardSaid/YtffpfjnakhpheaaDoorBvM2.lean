/- Rules for by-value frames, generic, no program. -/
import Derived.Test.YtffpfjnakhpheaaDoorBvM1
import Derived.Laws.NewBlocks
import Derived.Laws.MakeOwn
import Derived.Great.BuildSlice
import Derived.Still
import Derived.Deep.LoopGhost
import Derived.Laws.Sem
/-! Quiet operations: slices, lengths, functions; all in one theorem. -/
namespace Go.Bv
open Go Go.RowKit
set_option linter.unusedSimpArgs false
set_option linter.unusedVariables false
section
variable {K : Nat → Prop} {w0 : World} {Z : Nat → Prop} {Sc L : List CV} {a : Act} {w : World} {P : Program} {Γ : Tab}

theorem bnd_run (h : Good K w0 Z Sc L a w) {x : Option Operand} {dflt top n : Nat} (hb : bndA (ers Sc) x dflt top = some n) (code : BoundsCode) :
    (x = none ∧ n = dflt) ∨ ∃ x', x = some x' ∧ n ≤ top ∧ (Instr.sliceBound (a.eval x') top code).run P w = .ok n w := by
  cases x with
  | none => simp [bndA] at hb; exact .inl ⟨rfl, hb.symm⟩
  | some x' =>
    simp only [bndA] at hb
    split at hb
    case h_2 => cases hb
    rename_i k m hx
    split at hb
    case isFalse => cases hb
    rename_i h0
    simp only [Option.some.injEq] at hb
    subst hb
    obtain ⟨c, hc, hval, _, _⟩ := h.rd hx
    have := er_int hc; subst this
    refine .inr ⟨x', rfl, by omega, ?_⟩
    rw [← hval]
    simp [Instr.sliceBound, asIntOf, val_int, h0]
theorem bnd_le {S : List AV} {x : Option Operand} {dflt top n : Nat} (hb : bndA S x dflt top = some n) (hd : dflt ≤ top) : n ≤ top := by
  cases x with
  | none => simp [bndA] at hb; omega
  | some x' =>
    simp only [bndA] at hb
    split at hb
    case h_2 => cases hb
    split at hb
    case isFalse => cases hb
    simp only [Option.some.injEq] at hb; omega

theorem run_bounds (h : Good K w0 Z Sc L a w) {lo hi : Option Operand} {len cap l hh : Nat} {top : Nat} (htop : top ≤ cap) (hlen : len ≤ top) (hb1 : bndA (ers Sc) hi len top = some hh) (hb2 : bndA (ers Sc) lo 0 hh = some l) (isSl : Bool) :
    (Instr.sliceBounds isSl len cap (lo.map a.eval) (hi.map a.eval) none).run P w = .ok (l, hh, cap) w ∧ l ≤ hh ∧ hh ≤ top := by
  have hle : hh ≤ top := bnd_le hb1 hlen
  have hle2 : l ≤ hh := bnd_le hb2 (Nat.zero_le _)
  refine ⟨?_, hle2, hle⟩
  -- against the capacity instead of the length
  have hcapb : ∀ code, hi = none ∧ hh = len ∨ ∃ x', hi = some x' ∧ (Instr.sliceBound (a.eval x') cap code).run P w = .ok hh w := by
    intro code
    cases hi with
    | none => simp [bndA] at hb1; exact .inl ⟨rfl, hb1.symm⟩
    | some x' =>
      simp only [bndA] at hb1
      split at hb1
      case h_2 => cases hb1
      rename_i k m hx
      split at hb1
      case isFalse => cases hb1
      rename_i h0
      simp only [Option.some.injEq] at hb1
      subst hb1
      obtain ⟨c, hc, hval, _, _⟩ := h.rd hx
      have := er_int hc; subst this
      refine .inr ⟨x', rfl, ?_⟩
      rw [← hval]
      simp [Instr.sliceBound, asIntOf, val_int, h0.1, show m ≤ (cap : Int) by omega]
  rcases hcapb (if isSl then .sliceAcap else .sliceAlen) with ⟨rfl, rfl⟩ | ⟨x', rfl, hx'⟩ <;>
  rcases bnd_run (P := P) h hb2 .sliceB with ⟨rfl, rfl⟩ | ⟨y', rfl, _, hy'⟩ <;>
  simp_all [Instr.sliceBounds]

theorem all_size {E s : Nat} {xs : List CV} (hall : (ers xs).all (fun y => alen y == Γ.size E) = true) (hs : ∀ x ∈ xs, (flat x).length = s) (hne : xs ≠ []) : Γ.size E = s := by
  cases xs with
  | nil => exact absurd rfl hne
  | cons x xs =>
    simp only [ers, List.all_cons, Bool.and_eq_true, beq_iff_eq] at hall
    rw [← hall.1, alen_er, hs x (by simp)]

theorem slice_lst (hT : TabOk P Γ) (h : Good K w0 Z Sc L a w) {o : Oper} {T E : Nat} {x : Operand} {lo hi : Option Operand} (ho : o.op = .slice T x lo hi none) (hk : Γ.kind T = .sl E) (hE : Γ.kind E ≠ .no)
    {s cap : Nat} {A : Option Addr} {xs : List CV} (hval : val (.lst false s A cap xs) = a.eval x) (hrd : Rd w Z Sc (.lst false s A cap xs)) (hall : (ers xs).all (fun y => alen y == Γ.size E) = true)
    {hh l : Nat} (hb1 : bndA (ers Sc) hi xs.length xs.length = some hh) (hb2 : bndA (ers Sc) lo 0 hh = some l) : QS P a w Z Sc o (.lst false s (((ers xs).drop l).take (hh - l))) := by
  have hkk := hrd.ok
  simp only [Ok] at hkk
  obtain ⟨⟨b1, b2, b3⟩, c2, c3, c4⟩ := hkk
  obtain ⟨hrun, hl1, hl2⟩ := run_bounds (P := P) h b1 (Nat.le_refl _) hb1 hb2 true
  have hsz := run_size (P := P) hT hE w
  have hwf := hrd.wf
  simp only [Wf] at hwf
  have hlen : ((xs.drop l).take (hh - l)).length = hh - l := by simp; omega
  have hsub : PlL ((xs.drop l).take (hh - l)) := by
    rw [plL_iff] at hwf ⊢
    exact fun u hu => hwf u (List.mem_of_mem_drop (List.mem_of_mem_take hu))
  have hfp0 : fps ((xs.drop l).take (hh - l)) = [] := by
    have h0 := c3 (by trivial)
    have := (fps_sub l (hh - l) xs).subset
    rw [h0] at this
    exact List.eq_nil_iff_forall_not_mem.2 fun b hb => by simpa using this hb
  refine ⟨.lst false s (if cap = l then A else A.map (·.add (l * Γ.size E))) (cap - l) ((xs.drop l).take (hh - l)), ?_, ?_, rd_scalar (by simpa only [Pl] using hsub) ?_ ?_, by simp⟩
  · simp [er, ers_eq, List.map_take, List.map_drop]
  · unfold execOp
    simp only [ho]
    rw [← hval]
    have hvl : val (.lst false s A cap xs) = .slice A xs.length cap := rfl
    simp only [hvl, Instr.sliceAt, Instr.slice, Sem.run_bind, run_underlying (hT.sl T E hk), Result.andThen_ok, hrun, hsz, Option.map_none, Sem.run_pure]
    have hvr : ∀ B C, val (.lst false s B C ((xs.drop l).take (hh - l))) = .slice B (hh - l) C := fun B C => by
      show Value.slice B _ C = _
      rw [hlen]
    rw [hvr]
  · simp [fp, hfp0]
  · simp only [Ok]
    refine ⟨⟨by rw [hlen]; omega, ?_, by simp⟩, fun x hx => c2 x (List.mem_of_mem_drop (List.mem_of_mem_take hx)), fun _ => hfp0, ?_⟩
    · rw [hlen]
      by_cases hn : hh - l = 0
      · exact .inl hn
      · rcases b2 with b2 | ⟨ad, rfl, hsp, hcell, hzb⟩
        · omega
        · have hsE := all_size hall c2 (by intro e; subst e; simp at hl2; omega)
          refine .inr ⟨ad.add (l * s), ?_, add_spot hsp _, cells_sub hsp c2 hcell l (hh - l) (by omega), fun _ => by rw [add_block]; exact hzb (by trivial)⟩
          rw [if_neg (by omega), hsE]
          rfl
    · rw [okL_iff] at c4 ⊢
      exact fun u hu => c4 u (List.mem_of_mem_drop (List.mem_of_mem_take hu))

theorem slice_ref (hT : TabOk P Γ) (h : Good K w0 Z Sc L a w) {o : Oper} {T E : Nat} {x : Operand} {lo hi : Option Operand} (ho : o.op = .slice T x lo hi none) (hk : Γ.kind T = .sl E) (hE : Γ.kind E ≠ .no)
    {r l0 m : Nat} {p : List Nat} {v : Value} (hval : val (.ref r p l0 m v) = a.eval x) (hrd : Rd w Z Sc (.ref r p l0 m v)) {s0 : Nat} {ys : List AV} (hg : aget (ers Sc) r p = some (.lst true s0 ys))
    (hall : ys.all (fun y => alen y == Γ.size E) = true) {hh l : Nat} (hb1 : bndA (ers Sc) hi m m = some hh) (hb2 : bndA (ers Sc) lo 0 hh = some l) : QS P a w Z Sc o (.ref r p (l0 + l) (hh - l)) := by
  have hr := hrd.refOk
  simp only [RefOk] at hr
  obtain ⟨x0, s, A, cap, xs, lo', hx0, hp, hcg, hlo, A', c', rfl, hloc, rfl, hnc, hA0, hA1⟩ := hr
  have hys : ys = ers xs := by
    have := er_cget (Sc := Sc) (r := r) (p := p) (y := .lst true s A cap xs) (l := lo') (by simp [cget, hx0, hcg])
    rw [hg] at this; simpa [er] using (by simpa [er] using this : s0 = s ∧ ys = ers xs).2
  subst hys
  have hokx := ((okL_cut hx0).1 ((okL_append _ _).1 h.ok).1).2.1
  have hoky : Ok w Z (.lst true s A cap xs) := ok_get p _ _ _ lo' hcg (ok_root hokx).1
  simp only [Ok] at hoky
  obtain ⟨⟨b1, b2, b3⟩, c2, c3, c4⟩ := hoky
  obtain ⟨hrun, hl1, hl2⟩ := run_bounds (P := P) h hnc (Nat.le_refl _) hb1 hb2 true
  have hsz := run_size (P := P) hT hE w
  refine ⟨.ref r p (l0 + l) (hh - l) (.slice (if cap - l0 = l then A' else A'.map (·.add (l * Γ.size E))) (hh - l) (cap - l0 - l)), by simp [er], ?_, ⟨?_, by simp [Wf], by simp [Ok], by simp [fp], .inr (by simp [NoOwn])⟩, by simp⟩
  · unfold execOp
    simp only [ho]
    rw [← hval]
    have hvl : val (.ref r p l0 m (.slice A' m (cap - l0))) = .slice A' m (cap - l0) := rfl
    simp only [hvl, Instr.sliceAt, Instr.slice, Sem.run_bind, run_underlying (hT.sl T E hk), Result.andThen_ok, hrun, hsz, Option.map_none, Sem.run_pure]
    rfl
  · simp only [RefOk]
    refine ⟨x0, s, A, cap, xs, lo', hx0, hp, hcg, by omega, _, _, rfl, by omega, by omega, by omega, fun e => ?_, fun hlt => ?_⟩
    · have e1 : l0 = 0 := by omega
      have e2 : l = 0 := by omega
      subst e1; subst e2
      rw [hA0 rfl]
      split
      · rfl
      · cases A <;> simp [Addr.add]
    · rw [if_neg (by omega), hA1 (by omega)]
      cases hA : A with
      | none => rfl
      | some ad =>
        simp only [Option.map_some]
        have hsp : ad.spot = none := by
          obtain ⟨_, ad', _, _, e, hs, _⟩ := b3 (by trivial) (by omega)
          rw [hA] at e; cases e; exact hs
        rw [add_add hsp]
        congr 2
        by_cases hl0 : l = 0
        · subst hl0; simp
        · rw [all_size hall c2 (by intro e; subst e; simp at hlo; omega), Nat.add_mul]

theorem slice_sound (hT : TabOk P Γ) (h : Good K w0 Z Sc L a w) {o : Oper} {T : Nat} {x : Operand} {lo hi : Option Operand} (ho : o.op = .slice T x lo hi none) {v : AV} (hv : qv Γ (ers Sc) o = some v) : QS P a w Z Sc o v := by
  simp only [qv, ho] at hv
  split at hv
  · rename_i s hk hx
    obtain ⟨c, hc, hval, _, _⟩ := h.rd hx
    have := er_str hc; subst this
    cases hb1 : bndA (ers Sc) hi s.size s.size with
    | none => simp [hb1] at hv
    | some hh =>
      simp only [hb1] at hv
      cases hb2 : bndA (ers Sc) lo 0 hh with
      | none => simp [hb2] at hv
      | some l =>
        simp only [hb2, Option.some.injEq] at hv
        subst hv
        obtain ⟨hrun, _, _⟩ := run_bounds (P := P) h (Nat.le_refl _) (Nat.le_refl _) hb1 hb2 false
        unfold QS execOp
        simp only [ho]
        rw [← hval]
        refine ⟨.str _, rfl, ?_, rd_str _, by simp⟩
        simp only [val_str, Instr.sliceAt, Instr.slice, Sem.run_bind, run_underlying (hT.str T hk), Result.andThen_ok, hrun, Option.map_none, Option.isSome_none, Bool.false_eq_true, if_false, Sem.run_pure]
  · rename_i E s0 ys hk hx
    obtain ⟨c, hc, hval, hrd, _⟩ := h.rd hx
    obtain ⟨A, cap, xs, rfl, rfl⟩ := er_lst hc
    split at hv
    · cases hv
    rename_i hE
    have hlen : (ers xs).length = xs.length := by simp [ers_eq]
    rw [hlen] at hv
    cases hb1 : bndA (ers Sc) hi xs.length xs.length with
    | none => simp [hb1] at hv
    | some hh =>
      simp only [hb1] at hv
      cases hb2 : bndA (ers Sc) lo 0 hh with
      | none => simp [hb2] at hv
      | some l =>
        simp only [hb2, Option.some.injEq] at hv
        subst hv
        exact slice_lst hT h ho hk (fun e => hE (.inl e)) hval hrd (by
          cases e : (ers xs).all (fun y => alen y == Γ.size E)
          · exact absurd (.inr e) hE
          · rfl) hb1 hb2
  · rename_i E r p l0 m hk hx
    obtain ⟨c, hc, hval, hrd, _⟩ := h.rd hx
    obtain ⟨v', rfl⟩ := er_ref hc
    split at hv
    · cases hv
    rename_i hE
    cases hb1 : bndA (ers Sc) hi m m with
    | none => simp [hb1] at hv
    | some hh =>
      simp only [hb1] at hv
      cases hb2 : bndA (ers Sc) lo 0 hh with
      | none => simp [hb2] at hv
      | some l =>
        simp only [hb2] at hv
        cases hg : aget (ers Sc) r p with
        | none => simp [hg] at hv
        | some y =>
          simp only [hg] at hv
          split at hv
          case h_2 => cases hv
          rename_i ys he
          split at hv
          case isFalse => cases hv
          rename_i hall
          simp only [Option.some.injEq] at hv
          subst hv
          simp only [Option.some.injEq] at he
          subst he
          exact slice_ref hT h ho hk hE hval hrd hg hall hb1 hb2
  · cases hv

theorem ards_sound (h : Good K w0 Z Sc L a w) : ∀ (xs : List Operand) (vs : List AV), ards (ers Sc) xs = some vs → ∃ cs, ers cs = vs ∧ cs.map val = xs.map a.eval ∧ (∀ c ∈ cs, Rd w Z Sc c ∧ (∀ ys, c ≠ .tup ys))
  | [], vs, hv => by simp only [ards, Option.some.injEq] at hv; exact ⟨[], by simp [ers, hv], rfl, by simp⟩
  | x :: xs, vs, hv => by
    simp only [ards] at hv
    cases hx : ard (ers Sc) x with
    | none => simp [hx] at hv
    | some v =>
      simp only [hx] at hv
      cases hxs : ards (ers Sc) xs with
      | none => simp [hxs] at hv
      | some vs' =>
        simp only [hxs, Option.some.injEq] at hv
        subst hv
        obtain ⟨c, h1, h2, h3, h4⟩ := h.rd hx
        obtain ⟨cs, g1, g2, g3⟩ := ards_sound h xs vs' hxs
        refine ⟨c :: cs, by simp [ers, h1, g1], by simp [h2, g2], fun d hd => ?_⟩
        rcases List.mem_cons.1 hd with rfl | hd
        · exact ⟨h3, h4⟩
        · exact g3 d hd
end
end Go.Bv

/-! All quiet operations in one theorem. -/
namespace Go.Bv
open Go Go.RowKit
set_option linter.unusedSimpArgs false
set_option linter.unusedVariables false
section
variable {K : Nat → Prop} {w0 : World} {Z : Nat → Prop} {Sc L : List CV} {a : Act} {w : World} {P : Program} {Γ : Tab}

theorem val_of_val1 {x : CV} (h : ∀ ys, x ≠ .tup ys) : val x = val1 x := by cases x <;> first | rfl | exact absurd rfl (h _)
theorem flats_one : ∀ {cs : List CV}, (∀ c ∈ cs, ∀ xs, c ≠ .agg xs) → flats cs = cs.map val1
  | [], _ => by simp [flats]
  | c :: cs, h => by
    have ih := flats_one (cs := cs) fun d hd => h d (List.mem_cons_of_mem _ hd)
    simp only [flats, flat_one (h c List.mem_cons_self), ih, List.map_cons, List.cons_append, List.nil_append]
theorem ers_one {cs : List CV} {x : AV} (h : ers cs = [x]) : ∃ c, cs = [c] ∧ er c = x := by
  cases cs with
  | nil => simp [ers] at h
  | cons c cs => cases cs with
    | nil => simp only [ers, List.cons.injEq, and_true] at h; exact ⟨c, rfl, h⟩
    | cons d ds => simp [ers] at h
theorem ers_two {cs : List CV} {x y : AV} (h : ers cs = [x, y]) : ∃ c d, cs = [c, d] ∧ er c = x ∧ er d = y := by
  cases cs with
  | nil => simp [ers] at h
  | cons c cs =>
    simp only [ers, List.cons.injEq] at h
    obtain ⟨d, rfl, hd⟩ := ers_one h.2
    exact ⟨c, d, rfl, h.1, hd⟩
theorem ers_three {cs : List CV} {x y z : AV} (h : ers cs = [x, y, z]) : ∃ c d e, cs = [c, d, e] ∧ er c = x ∧ er d = y ∧ er e = z := by
  cases cs with
  | nil => simp [ers] at h
  | cons c cs =>
    simp only [ers, List.cons.injEq] at h
    obtain ⟨d, e, rfl, hd⟩ := ers_two h.2
    exact ⟨c, d, e, rfl, h.1, hd⟩


theorem func_sound (h : Good K w0 Z Sc L a w) {o : Oper} {f : Nat} {first caps : Array Operand} (ho : o.op = .makeFunc (.func f) first caps) {v : AV} (hv : qv Γ (ers Sc) o = some v) : QS P a w Z Sc o v := by
  simp only [qv, ho] at hv
  split at hv
  case isFalse => cases hv
  rename_i hf
  cases hcs : ards (ers Sc) caps.toList with
  | none => simp [hcs] at hv
  | some vs =>
    simp only [hcs] at hv
    split at hv
    case isFalse => cases hv
    rename_i hall
    simp only [Option.some.injEq] at hv
    subst hv
    obtain ⟨cs, h1, h2, h3⟩ := ards_sound h _ _ hcs
    have hna : ∀ c ∈ cs, ∀ xs, c ≠ .agg xs := by
      rintro c hc xs rfl
      rw [← h1, List.all_eq_true] at hall
      have := hall (er (.agg xs)) (by rw [ers_eq]; exact List.mem_map_of_mem hc)
      simp [er] at this
    have hfl : flats cs = caps.toList.map a.eval := by
      rw [flats_one hna, ← h2]
      apply List.map_congr_left
      intro c hc
      exact (val_of_val1 (h3 c hc).2).symm
    refine ⟨.fn f cs, by simp [er, h1], ?_, ⟨?_, ?_, ?_, ?_, .inr (by simp [NoOwn])⟩, by simp⟩
    · unfold execOp
      have e1 : first = #[] := by simpa using hf
      simp only [ho, Instr.makeFunc, Sem.run_bind, Sem.run_pure, Result.andThen_ok, e1]
      have : val (.fn f cs) = .func (.func f) #[] (caps.map a.eval) := by
        simp only [val, val1, flat, hfl, List.headD_cons]
        congr 1
        apply Array.ext'
        simp
      rw [this]
      simp
    · simp only [RefOk]; exact (refOkL_iff cs).2 fun c hc => (h3 c hc).1.refOk
    · simp only [Wf]; exact (wfL_iff cs).2 fun c hc => (h3 c hc).1.wf
    · simp only [Ok]
      refine ⟨?_, (okL_iff cs).2 fun c hc => (h3 c hc).1.ok⟩
      exact List.eq_nil_iff_forall_not_mem.2 fun b hb => by
        obtain ⟨c, hc, hbc⟩ := mem_fps.1 hb
        rw [(h3 c hc).1.fp] at hbc; cases hbc
    · simp only [fp]
      exact List.eq_nil_iff_forall_not_mem.2 fun b hb => by
        obtain ⟨c, hc, hbc⟩ := mem_fps.1 hb
        rw [(h3 c hc).1.fp] at hbc; cases hbc

theorem nil_sound (h : Good K w0 Z Sc L a w) {o : Oper} {x : Operand} (ho : o.op = .nilCheck x) {v : AV} (hv : qv Γ (ers Sc) o = some v) : QS P a w Z Sc o v := by
  simp only [qv, ho] at hv
  cases hx : ard (ers Sc) x with
  | none => simp [hx] at hv
  | some u =>
    obtain ⟨c, hc, hval, hrd, hnt⟩ := h.rd hx
    simp only [hx] at hv
    unfold QS execOp
    simp only [ho]
    cases u <;> try (cases hv; done)
    · rename_i f vs
      obtain ⟨xs, rfl, _⟩ := er_fn hc
      simp only [Option.some.injEq] at hv; subst hv
      refine ⟨_, hc, ?_, hrd, hnt⟩
      rw [← hval]
      simp [val, val1, flat]
    · rename_i y
      obtain ⟨ad, z, rfl, _⟩ := er_ip hc
      simp only [Option.some.injEq] at hv; subst hv
      refine ⟨_, hc, ?_, hrd, hnt⟩
      rw [← hval]
      simp [val, val1, flat]
    · rename_i r p
      obtain ⟨ad, rfl⟩ := er_at hc
      simp only [Option.some.injEq] at hv; subst hv
      refine ⟨_, hc, ?_, hrd, hnt⟩
      rw [← hval]
      simp [val, val1, flat]

theorem run_builtin {b : Builtin} {args : Array Operand} {argTypes : Array TypeId} {o : Oper} (ho : o.op = .call { callee := .builtin b, args, argTypes }) {vs : List Value} (hvs : args.toList.map a.eval = vs) :
    execOp a.eval o = builtin b argTypes o.type (args.map fun | .const _ => true | _ => false) vs.toArray := by
  unfold execOp
  simp only [ho, resolve, invoke]
  have : args.map a.eval = vs.toArray := by apply Array.ext'; simp [hvs]
  rw [this]
  rfl

theorem min_run {vs : List AV} {v : AV} (hv : minA vs = some v) {cs : List CV} (h1 : ers cs = vs) (ty : TypeId) (ats : Array TypeId) :
    ∃ k n, v = .int k n ∧ (Builtin.min_ ats ty (cs.map val).toArray).run P w = .ok (.int k n) w := by
  unfold minA at hv
  split at hv
  · rename_i k x k' y
    obtain ⟨c1, c2, rfl, e1, e2⟩ := ers_two h1
    have := er_int e1; subst this
    have := er_int e2; subst this
    simp only [Option.some.injEq] at hv; subst hv
    exact ⟨_, _, rfl, by simp [Builtin.min_, Builtin.min2, val_int]⟩
  · rename_i k x k' y k'' z
    obtain ⟨c1, c2, c3, rfl, e1, e2, e3⟩ := ers_three h1
    have := er_int e1; subst this
    have := er_int e2; subst this
    have := er_int e3; subst this
    simp only [Option.some.injEq] at hv; subst hv
    exact ⟨_, _, rfl, by simp [Builtin.min_, Builtin.min2, val_int]⟩
  · cases hv
theorem max_run {vs : List AV} {v : AV} (hv : maxA vs = some v) {cs : List CV} (h1 : ers cs = vs) (ty : TypeId) (ats : Array TypeId) :
    ∃ k n, v = .int k n ∧ (Builtin.max_ ats ty (cs.map val).toArray).run P w = .ok (.int k n) w := by
  unfold maxA at hv
  split at hv
  · rename_i k x k' y
    obtain ⟨c1, c2, rfl, e1, e2⟩ := ers_two h1
    have := er_int e1; subst this
    have := er_int e2; subst this
    simp only [Option.some.injEq] at hv; subst hv
    exact ⟨_, _, rfl, by simp [Builtin.max_, Builtin.max2, val_int]⟩
  · rename_i k x k' y k'' z
    obtain ⟨c1, c2, c3, rfl, e1, e2, e3⟩ := ers_three h1
    have := er_int e1; subst this
    have := er_int e2; subst this
    have := er_int e3; subst this
    simp only [Option.some.injEq] at hv; subst hv
    exact ⟨_, _, rfl, by simp [Builtin.max_, Builtin.max2, val_int]⟩
  · cases hv

theorem builtin_sound (hT : TabOk P Γ) (h : Good K w0 Z Sc L a w) {o : Oper} {b : Builtin} {args : Array Operand} {argTypes : Array TypeId} (ho : o.op = .call { callee := .builtin b, args, argTypes }) {v : AV}
    (hv : qv Γ (ers Sc) o = some v) : QS P a w Z Sc o v := by
  simp only [qv, ho] at hv
  cases hvs : ards (ers Sc) args.toList with
  | none => simp [hvs] at hv
  | some vs =>
    simp only [hvs] at hv
    obtain ⟨cs, h1, h2, h3⟩ := ards_sound h _ _ hvs
    unfold QS
    rw [run_builtin ho h2.symm]
    have hint : ∀ k n, v = .int k n → (builtin b argTypes o.type (args.map fun | .const _ => true | _ => false) (cs.map val).toArray).run P w = .ok (.value (.int k n)) w →
        ∃ c, er c = v ∧ (builtin b argTypes o.type (args.map fun | .const _ => true | _ => false) (cs.map val).toArray).run P w = .ok (.value (val c)) w ∧ Rd w Z Sc c ∧ (∀ xs, c ≠ .tup xs) :=
      fun k n e1 e2 => ⟨.int k n, by rw [e1]; rfl, e2, rd_int _ _, by simp⟩
    cases b <;> simp only at hv <;> try (cases hv; done)
    · -- len
      split at hv
      case h_2 => cases hv
      rename_i x T hT0
      obtain ⟨c, rfl, e1⟩ := ers_one h1
      clear h1 hvs
      split at hv
      · rename_i s hk
        have := er_str e1; subst this
        simp only [Option.some.injEq] at hv
        refine hint _ _ hv.symm ?_
        simp [builtin, Builtin.len_, hT0, run_underlying (hT.str T hk), val_str, goInt]
      · rename_i E ob s0 ys hk
        obtain ⟨A, cap, xs, rfl, rfl⟩ := er_lst e1
        simp only [Option.some.injEq] at hv
        refine hint _ _ hv.symm ?_
        simp [builtin, Builtin.len_, hT0, run_underlying (hT.sl T E hk), val, val1, flat, goInt, ers_eq]
      · rename_i E r p l0 n hk
        obtain ⟨cv, rfl⟩ := er_ref e1
        have hr := (h3 (.ref r p l0 n cv) List.mem_cons_self).1.refOk
        simp only [RefOk] at hr
        obtain ⟨x0, s, A, cap, xs, lo', hx0, hp, hcg, hlo, A', c', rfl, _⟩ := hr
        simp only [Option.some.injEq] at hv
        refine hint _ _ hv.symm ?_
        simp [builtin, Builtin.len_, hT0, run_underlying (hT.sl T E hk), val, val1, flat, goInt]
      · cases hv
    · -- max
      obtain ⟨k, n, e1, e2⟩ := max_run (P := P) (w := w) hv h1 o.type argTypes
      refine hint k n e1 ?_
      simp only [builtin, Sem.run_bind, e2, Result.andThen_ok, Sem.run_pure]
    · -- min
      obtain ⟨k, n, e1, e2⟩ := min_run (P := P) (w := w) hv h1 o.type argTypes
      refine hint k n e1 ?_
      simp only [builtin, Sem.run_bind, e2, Result.andThen_ok, Sem.run_pure]

/-- **Every quiet operation.** -/
theorem qv_sound (hT : TabOk P Γ) (h : Good K w0 Z Sc L a w) {o : Oper} {v : AV} (hv : qv Γ (ers Sc) o = some v) : QS P a w Z Sc o v := by
  cases ho : o.op with
  | move x => exact move_sound h ho hv
  | pick x y z => exact pick_sound h ho hv
  | load T x => exact load_sound hT h ho hv
  | fieldAddr T x f => exact fieldAddr_sound hT h ho hv
  | indexAddr T x i => exact indexAddr_sound hT h ho hv
  | field T x f => exact field_sound hT h ho hv
  | index T x i => exact index_sound hT h ho hv
  | binOp op T x y T' => exact binOp_sound hT h ho hv
  | unOp op T x => exact unOp_sound h ho hv
  | convert s d x => exact conv_sound hT h ho hv
  | slice T x lo hi mx =>
    cases mx with
    | none => exact slice_sound hT h ho hv
    | some m => simp [qv, ho] at hv
  | makeFunc fn first caps =>
    cases fn with
    | func f => exact func_sound h ho hv
    | _ => simp [qv, ho] at hv
  | nilCheck x => exact nil_sound h ho hv
  | call c =>
    obtain ⟨callee, args, argTypes⟩ := c
    cases callee with
    | builtin b => exact builtin_sound hT h ho hv
    | _ => simp [qv, ho] at hv
  | _ => simp [qv, ho] at hv
end
end Go.Bv

/-! Operations that turn the frame or make memory: assign, box, alloc, store, extract. -/
namespace Go.Bv
open Go Go.RowKit
set_option linter.unusedSimpArgs false
set_option linter.unusedVariables false

/-- Can nothing lean on what lies below it? -/
def scalarA : AV → Bool
  | .bool _ | .int _ _ | .str _ | .undef | .ip _ => true
  | _ => false
def isAggA : AV → Bool
  | .agg _ => true
  | _ => false
def asetq (S : List AV) (r : Nat) (p : List Nat) (v old : AV) : List AV := if scalarA old = true ∧ scalarA v = true then aset S r p v else asetc S r p v

section
variable {K : Nat → Prop} {w0 : World} {Z : Nat → Prop} {Sc L : List CV} {a : Act} {w : World} {P : Program} {Γ : Tab}

theorem heap_alloc_ne (w : World) (o : Obj) {b : Nat} (h : b < w.heap.size) : (w.alloc o).heap[b]? = w.heap[b]? := heap_alloc_old w o b h
theorem size_alloc (w : World) (o : Obj) : (w.alloc o).heap.size = w.heap.size + 1 := by show (w.heap.push o).size = _; simp

/-- A world in which all that stood stands. -/
theorem Good.world (h : Good K w0 Z Sc L a w) {w' : World} (hb : ∀ b, b < w.heap.size → w'.heap[b]? = w.heap[b]?) (hs : w.heap.size ≤ w'.heap.size) (ho : w'.os = w.os) (ht : w'.tape = w.tape) (hu : w'.output = w.output) : Good K w0 Z Sc L a w' where
  defers := h.defers
  size := h.size
  tmps := h.tmps
  ok := OkL.congr (fun _ h => h) (fun b hz => hb b (h.lt b (.inr hz))) _ (fun b hf => hb b (h.lt b (.inl hf))) h.ok
  nodup := h.nodup
  apart := h.apart
  lt := fun b hb' => Nat.lt_of_lt_of_le (h.lt b hb') hs
  refs := h.refs
  wf := h.wf
  sorted := h.sorted
  nr := h.nr
  kept := fun b hk => ⟨(h.kept b hk).1, (h.kept b hk).2.1, (hb b (Nat.lt_of_lt_of_le (h.kept b hk).1 h.grew)).trans (h.kept b hk).2.2⟩
  os := ho.trans h.os
  tape := ht.trans h.tape
  output := hu.trans h.output
  grew := Nat.le_trans h.grew hs
theorem Good.alloc (h : Good K w0 Z Sc L a w) (o : Obj) : Good K w0 Z Sc L a (w.alloc o) :=
  h.world (fun b hb => heap_alloc_ne w o hb) (by rw [size_alloc]; omega) rfl rfl rfl

theorem fresh_not (h : Good K w0 Z Sc L a w) : w.heap.size ∉ fps (Sc ++ L) ∧ ¬ Z w.heap.size :=
  ⟨fun hm => Nat.lt_irrefl _ (h.lt _ (.inl hm)), fun hz => Nat.lt_irrefl _ (h.lt _ (.inr hz))⟩

/-- What stands beside the frame goes into a new block of its own. -/
theorem Good.block {M : List CV} {c : CV} {o : Obj} (h : Good K w0 Z Sc (M ++ L) a w) (hfp : Fits (fp c) (w.heap.size :: fps M)) (hok : Ok (w.alloc o) Z c) (hn : NR c) : Good K w0 Z Sc (c :: L) a (w.alloc o) := by
  have ha := h.alloc o
  obtain ⟨f1, f2⟩ := fresh_not h
  have hfit : Fits (fps (Sc ++ c :: L)) (w.heap.size :: fps (Sc ++ (M ++ L))) := by
    have e1 : fps (Sc ++ c :: L) = fps Sc ++ (fp c ++ fps L) := by simp [fps_append, fps]
    have e2 : w.heap.size :: fps (Sc ++ (M ++ L)) = w.heap.size :: (fps Sc ++ (fps M ++ fps L)) := by simp [fps_append]
    rw [e1, e2]
    refine Fits.trans (b := fps Sc ++ ((w.heap.size :: fps M) ++ fps L)) ⟨fun hnd => ?_, fun b hb => ?_⟩ (Fits.of_perm ?_)
    · rw [List.nodup_append, List.nodup_append (l₂ := fps L)] at hnd ⊢
      obtain ⟨n1, ⟨n2, n3, n4⟩, n5⟩ := hnd
      exact ⟨n1, ⟨hfp.nodup n2, n3, fun a ha b hb => n4 a (hfp.sub a ha) b hb⟩, fun a ha b hb => n5 a ha b (by
        rcases List.mem_append.1 hb with hb | hb
        · exact List.mem_append.2 (.inl (hfp.sub b hb))
        · exact List.mem_append.2 (.inr hb))⟩
    · rcases List.mem_append.1 hb with hb | hb
      · exact List.mem_append.2 (.inl hb)
      · rcases List.mem_append.1 hb with hb | hb
        · exact List.mem_append.2 (.inr (List.mem_append.2 (.inl (hfp.sub b hb))))
        · exact List.mem_append.2 (.inr (List.mem_append.2 (.inr hb)))
    · simp only [List.cons_append]
      exact List.perm_middle
  have hnd : (w.heap.size :: fps (Sc ++ (M ++ L))).Nodup := List.nodup_cons.2 ⟨f1, h.nodup⟩
  refine { ha with ok := ?_, nodup := hfit.nodup hnd, apart := fun b hb => ?_, lt := fun b hb => ?_, nr := ?_, kept := fun b hk => ⟨(ha.kept b hk).1, fun hm => ?_, (ha.kept b hk).2.2⟩ }
  · have := (okL_append _ _).1 ha.ok
    rw [okL_append]
    exact ⟨this.1, hok, ((okL_append _ _).1 this.2).2⟩
  · rcases List.mem_cons.1 (hfit.sub b hb) with rfl | hb
    · exact f2
    · exact h.apart b hb
  · rw [size_alloc]
    rcases hb with hb | hb
    · rcases List.mem_cons.1 (hfit.sub b hb) with rfl | hb
      · omega
      · have := h.lt b (.inl hb); omega
    · have := h.lt b (.inr hb); omega
  · intro x hx
    rcases List.mem_cons.1 hx with rfl | hx
    · exact hn
    · exact h.nr x (by simp [hx])
  · rcases List.mem_cons.1 (hfit.sub b hm) with rfl | hm
    · exact absurd (Nat.lt_of_lt_of_le (h.kept _ hk).1 h.grew) (Nat.lt_irrefl _)
    · exact (h.kept b hk).2.1 hm

/-- What is told of an operation that turns the frame: some frame, some world, told by the plain step. -/
def ES (P : Program) (K : Nat → Prop) (w0 : World) (Z : Nat → Prop) (L : List CV) (a : Act) (w : World) (o : Oper) (S2 : List AV) : Prop :=
  ∀ Q, o.wp P a w (fun a' w' => ∃ Sc, ers Sc = S2 ∧ Good K w0 Z Sc L a' w') Q

theorem es_value {o : Oper} {v : Value} {w' : World} (hr : (execOp a.eval o).run P w = .ok (.value v) w') {Sc' : List CV} {S2 : List AV} (he : ers Sc' = S2) (hg : Good K w0 Z Sc' L (a.put o.dst v) w') : ES P K w0 Z L a w o S2 := by
  intro Q
  unfold Oper.wp
  rw [hr]
  exact ⟨Sc', he, hg⟩
theorem es_skip {o : Oper} {w' : World} (hr : (execOp a.eval o).run P w = .ok .skip w') {Sc' : List CV} {S2 : List AV} (he : ers Sc' = S2) (hg : Good K w0 Z Sc' L (a.put o.dst undef) w') : ES P K w0 Z L a w o S2 := by
  intro Q
  unfold Oper.wp
  rw [hr]
  exact ⟨Sc', he, hg⟩

theorem Good.putRd (h : Good K w0 Z Sc L a w) (dst : Option Nat) {c : CV} (hr : Rd w Z Sc c) : Good K w0 Z (cput dst c Sc) L (a.put dst (val c)) w :=
  (h.add (c := .bool false) (by simp [Ok]) (by simp [fp]) (by simp [NR, Pl])).putG dst hr.ok (by rw [hr.fp]; simp only [fp]; exact Fits.refl _) hr.refOk hr.wf (hr.sorted.imp Pl.nr id)

theorem val_same {x y : CV} (h : flat y = flat x) (hy : Pl y) (ha : (∃ ys, y = .agg ys) ↔ (∃ ys, x = .agg ys)) (hx : ∀ ys, x ≠ .tup ys) : val y = val x :=
  val_of_flat hy.not_tup hx ha h

theorem assign_sound (h : Good K w0 Z Sc L a w) {o : Oper} {x : Operand} (ho : o.op = .assign x) {v : AV} (hx : ard (ers Sc) x = some v) :
    (arefs v = [] → ES P K w0 Z L a w o (aput o.dst v (ers Sc))) ∧ (∀ v' S', atake (ers Sc) v = some (v', S') → ES P K w0 Z L a w o (aput o.dst v' S')) := by
  obtain ⟨c, rfl, hval, hrd, hnt⟩ := h.rd hx
  have hrun : (execOp a.eval o).run P w = .ok (.value (val c)) w := by unfold execOp; simp [ho, hval]
  refine ⟨fun _ => es_value hrun (er_cput _ _ _) (h.putRd o.dst hrd), fun v' S' ht => ?_⟩
  obtain ⟨y, Sc', e1, e2, hG, hfl, hpl, hag, _⟩ := take_good c Sc L h hrd.refOk hrd.wf hrd.ok hrd.fp v' S' ht
  have hv : val y = val c := val_same hfl hpl hag hnt
  have := hG.put o.dst
  rw [hv] at this
  exact es_value hrun (by rw [er_cput, e1, e2]) this

theorem cells_val {c : CV} (h : Pl c) : (val c).cells = (flat c).toArray := by
  by_cases ha : ∃ xs, c = .agg xs
  · obtain ⟨xs, rfl⟩ := ha; rfl
  · have hf := flat_one (x := c) fun xs e => ha ⟨xs, e⟩
    have h1 := Pl.one c h (val1 c) (by rw [hf]; simp)
    rw [val_of_val1 h.not_tup, hf]
    revert h1
    cases val1 c <;> simp [Value.cells, Value.oneCell']


theorem run_newRow (E : TypeId) (cs : Array Value) : (newRow E cs).run P w = .ok ⟨w.heap.size, 0, none⟩ (w.alloc (.cells cs E)) := by
  simp [newRow]

theorem box_sound (h : Good K w0 Z Sc L a w) {o : Oper} {T : Nat} {x : Operand} (ho : o.op = .box T x) {v : AV} (hx : ard (ers Sc) x = some v) {v' : AV} {S' : List AV} (ht : atake (ers Sc) v = some (v', S')) :
    ES P K w0 Z L a w o (aput o.dst (.box v') S') := by
  obtain ⟨c, rfl, hval, hrd, hnt⟩ := h.rd hx
  obtain ⟨y, Sc', e1, e2, hG, hfl, hpl, hag, _⟩ := take_good c Sc L h hrd.refOk hrd.wf hrd.ok hrd.fp v' S' ht
  have hv : val y = val c := val_same hfl hpl hag hnt
  have hoky := ((okL_append _ _).1 ((okL_append Sc' (y :: L)).1 hG.ok |>.2 |> fun p => (okL_append [y] L).2 ⟨by simpa [OkL] using p.1, p.2⟩)).1
  have hoky' : Ok w Z y := by simpa [OkL] using hoky
  have hG2 := hG.block (M := [y]) (c := .box w.heap.size T y) (o := .cells (flat y).toArray T) ?_ ?_ hpl
  · have h3 := hG2.put o.dst
    refine es_value (w' := w.alloc (.cells (flat y).toArray T)) ?_ ?_ h3
    · unfold execOp
      simp only [ho]
      rw [← hval, ← hv]
      simp only [Instr.box, newVar, Sem.run_bind, cells_val hpl, run_newRow, Result.andThen_ok, Sem.run_pure]
      rfl
    · rw [er_cput, e2]; simp [er, e1]
  · simp only [fp, fps, List.append_nil]; exact Fits.refl _
  · simp only [Ok]
    refine ⟨heap_alloc_new w _, ?_⟩
    have hG' := hG.alloc (.cells (flat y).toArray T)
    have := (okL_append _ _).1 hG'.ok
    exact this.2.1

mutual
theorem zcells_ok : ∀ z : AV, zplain z = true → ∃ c, er c = z ∧ flat c = zcells z ∧ Pl c ∧ fp c = [] ∧ ∀ w Z, Ok w Z c
  | .bool b, _ => ⟨.bool b, rfl, rfl, by simp [Pl], by simp [fp], by simp [Ok]⟩
  | .int k n, _ => ⟨.int k n, rfl, rfl, by simp [Pl], by simp [fp], by simp [Ok]⟩
  | .str s, _ => ⟨.str s, rfl, rfl, by simp [Pl], by simp [fp], by simp [Ok]⟩
  | .lst true s [], _ => ⟨.lst true s none 0 [], rfl, rfl, by simp [Pl, PlL], by simp [fp, fps], by simp [Ok, OkL, HdrOk, flats]⟩
  | .lst true _ (_ :: _), h => by simp [zplain] at h
  | .lst false _ _, h => by simp [zplain] at h
  | .agg xs, h => by
    simp only [zplain] at h
    obtain ⟨cs, h1, h2, h3, h4, h5⟩ := zcellss_ok xs h
    exact ⟨.agg cs, by simp [er, h1], by simp [flat, zcells, h2], by simpa [Pl] using h3, by simpa [fp] using h4, fun w Z => by simpa [Ok] using h5 w Z⟩
  | .undef, h | .tup _, h | .fn _ _, h | .ip _, h | .at _ _, h | .ref _ _ _ _, h | .box _, h => by simp [zplain] at h
theorem zcellss_ok : ∀ zs : List AV, zplains zs = true → ∃ cs, ers cs = zs ∧ flats cs = zcellss zs ∧ PlL cs ∧ fps cs = [] ∧ ∀ w Z, OkL w Z cs
  | [], _ => ⟨[], rfl, rfl, by simp [PlL], rfl, by simp [OkL]⟩
  | z :: zs, h => by
    simp only [zplains, Bool.and_eq_true] at h
    obtain ⟨c, h1, h2, h3, h4, h5⟩ := zcells_ok z h.1
    obtain ⟨cs, g1, g2, g3, g4, g5⟩ := zcellss_ok zs h.2
    exact ⟨c :: cs, by simp [ers, h1, g1], by simp [flats, zcellss, h2, g2], by simp [PlL, h3, g3], by simp [fps, h4, g4], fun w Z => by simp [OkL, h5 w Z, g5 w Z]⟩
end

theorem alloc_sound (hT : TabOk P Γ) (h : Good K w0 Z Sc L a w) {o : Oper} {T : Nat} (ho : o.op = .alloc T) {z : AV} (hz : Γ.zero T = some z) : ES P K w0 Z L a w o (aput o.dst (.box z) (ers Sc)) := by
  obtain ⟨hp, i, v, h1, h2, h3, _⟩ := hT.zero T z hz
  obtain ⟨c, e1, e2, e3, e4, e5⟩ := zcells_ok z hp
  have hG := (h.add (e5 w Z) e4 e3.nr).block (M := [c]) (c := .box w.heap.size T c) (o := .cells (flat c).toArray T) (by simp only [fp, fps, List.append_nil]; exact Fits.refl _)
    (by simp only [Ok]; exact ⟨heap_alloc_new w _, e5 _ _⟩) e3
  refine es_value (w' := w.alloc (.cells (flat c).toArray T)) ?_ ?_ (hG.put o.dst)
  · unfold execOp
    have hc : v.cells = (flat c).toArray := by apply Array.ext'; simp [h3, e2]
    simp only [ho, Instr.alloc, zeroValue, typeInfo, Sem.run_bind, run_program, Result.andThen_ok, h1, h2, Sem.run_pure, newVar, hc, run_newRow]
    rfl
  · rw [er_cput]; simp [er, e1]

/-- A slot that nothing leans on gives up (a part of) what it holds. -/
theorem Good.swap (h : Good K w0 Z Sc L a w) {t : Nat} {x x' c : CV} (ht : Sc[t]? = some x) (hroot : ¬ Pl (rootC x).1) (hv : val x' = val x) (hk : Ok w Z x') (hc : Ok w Z c) (hf : Fits (fp x' ++ fp c) (fp x))
    (hr : RefOk Sc x') (hm : men t x' = false) (hw : Wf x') (hs : NR x' ∨ NoOwn x') (hn : NR c) (hme : ∀ y ∈ Sc, men t y = false) : Good K w0 Z (Sc.set t x') (c :: L) a w := by
  have hokA := (okL_append _ _).1 h.ok
  have hokc := (okL_cut ht).1 hokA.1
  have hl := (List.getElem?_eq_some_iff.1 ht).1
  have hput : ∀ y, men t y = false → RefOk Sc y → RefOk (Sc.set t x') y := fun y hm hy =>
    RefOk.put (d := t) (fun r z hr' hz _ => by rw [List.getElem?_set_ne (Ne.symm hr')]; exact hz) y hm hy
  refine h.turn (by simp) (fun u => ?_) ?_ ?_ ?_ ?_ ?_ ?_
  · by_cases e : t = u
    · subst e; rw [List.getElem?_set_self hl, ht]; simp [hv]
    · rw [List.getElem?_set_ne e]
  · rw [okL_append, okL_set ht]
    exact ⟨⟨hokc.1, hk, hokc.2.2⟩, hc, hokA.2⟩
  · have e1 : fps (Sc.set t x' ++ c :: L) = fps (Sc.take t) ++ (fp x' ++ (fps (Sc.drop (t + 1)) ++ (fp c ++ fps L))) := by rw [set_at _ ht]; simp [fps_append, fps]
    have e2 : fps (Sc ++ L) = fps (Sc.take t) ++ (fp x ++ (fps (Sc.drop (t + 1)) ++ fps L)) := by rw [fps_append, fps_cut ht]; simp
    rw [e1, e2]
    refine Fits.trans (b := fps (Sc.take t) ++ ((fp x' ++ fp c) ++ (fps (Sc.drop (t + 1)) ++ fps L))) (Fits.of_perm (List.Perm.append_left _ ?_)) ⟨fun hnd => ?_, fun b hb => ?_⟩
    · rw [List.append_assoc]
      refine List.Perm.append_left _ ?_
      rw [← List.append_assoc, ← List.append_assoc]
      exact List.Perm.append_right _ List.perm_append_comm
    · rw [List.nodup_append, List.nodup_append (l₁ := fp x)] at hnd
      rw [List.nodup_append, List.nodup_append (l₁ := fp x' ++ fp c)]
      obtain ⟨n1, ⟨n2, n3, n4⟩, n5⟩ := hnd
      exact ⟨n1, ⟨hf.nodup n2, n3, fun a ha b hb => n4 a (hf.sub a ha) b hb⟩, fun a ha b hb => n5 a ha b (by
        rcases List.mem_append.1 hb with hb | hb
        · exact List.mem_append.2 (.inl (hf.sub b hb))
        · exact List.mem_append.2 (.inr hb))⟩
    · rcases List.mem_append.1 hb with hb | hb
      · exact List.mem_append.2 (.inl hb)
      · rcases List.mem_append.1 hb with hb | hb
        · exact List.mem_append.2 (.inr (List.mem_append.2 (.inl (hf.sub b hb))))
        · exact List.mem_append.2 (.inr (List.mem_append.2 (.inr hb)))
  · intro z hz
    rcases List.mem_or_eq_of_mem_set hz with hz | rfl
    · exact hput z (hme z hz) (h.refs z hz)
    · exact hput z hm hr
  · intro z hz
    rcases List.mem_or_eq_of_mem_set hz with hz | rfl
    · exact h.wf z hz
    · exact hw
  · intro z hz
    rcases List.mem_or_eq_of_mem_set hz with hz | rfl
    · exact h.sorted z hz
    · exact hs
  · intro z hz
    rcases List.mem_cons.1 hz with rfl | hz
    · exact hn
    · exact h.nr z hz

mutual
theorem RefOk.noroot {t : Nat} {x0 : CV} (ht : Sc[t]? = some x0) (hr : ¬ Pl (rootC x0).1) : ∀ y : CV, RefOk Sc y → men t y = false
  | .at r p ad, h => by
    simp only [RefOk] at h
    obtain ⟨x, y, h1, h2, _⟩ := h
    simp only [Bv.men, beq_eq_false_iff_ne]
    rintro rfl; rw [ht] at h1; cases h1; exact hr h2
  | .ref r p lo n v, h => by
    simp only [RefOk] at h
    obtain ⟨x, s, A, c, xs, l, h1, h2, _⟩ := h
    simp only [Bv.men, beq_eq_false_iff_ne]
    rintro rfl; rw [ht] at h1; cases h1; exact hr h2
  | .agg xs, h => by simp only [Bv.men, RefOk] at h ⊢; exact RefOkL.noroot ht hr xs h
  | .tup xs, h => by simp only [Bv.men, RefOk] at h ⊢; exact RefOkL.noroot ht hr xs h
  | .fn _ xs, h => by simp only [Bv.men, RefOk] at h ⊢; exact RefOkL.noroot ht hr xs h
  | .ip _ x, h => by simp only [Bv.men, RefOk] at h ⊢; exact RefOk.noroot ht hr x h
  | .undef _, _ | .bool _, _ | .int _ _, _ | .str _, _ | .lst _ _ _ _ _, _ | .box _ _ _, _ => by simp [Bv.men]
theorem RefOkL.noroot {t : Nat} {x0 : CV} (ht : Sc[t]? = some x0) (hr : ¬ Pl (rootC x0).1) : ∀ ys : List CV, RefOkL Sc ys → mens t ys = false
  | [], _ => by simp [mens]
  | y :: ys, h => by simp only [RefOkL] at h; simp [mens, RefOk.noroot ht hr y h.1, RefOkL.noroot ht hr ys h.2]
end

theorem extract_sound (h : Good K w0 Z Sc L a w) {o : Oper} {t i : Nat} (ho : o.op = .extract (.tmp t) i) {vs : List AV} {v : AV} (ht : (ers Sc)[t]? = some (.tup vs)) (hi : vs[i]? = some v) (hpl : plA v = true) :
    ES P K w0 Z L a w o (aput o.dst v ((ers Sc).set t (.tup (vs.set i .undef)))) := by
  rw [ers_eq, List.getElem?_map] at ht
  cases hx : Sc[t]? with
  | none => simp [hx] at ht
  | some x =>
    simp only [hx, Option.map_some, Option.some.injEq] at ht
    have hxt : ∃ cs, x = .tup cs ∧ ers cs = vs := by cases x <;> simp [er] at ht; exact ⟨_, rfl, ht⟩
    obtain ⟨cs, rfl, rfl⟩ := hxt
    rw [ers_eq, List.getElem?_map] at hi
    cases hc : cs[i]? with
    | none => simp [hc] at hi
    | some c =>
      simp only [hc, Option.map_some, Option.some.injEq] at hi
      subst hi
      have hP := pl_er c hpl
      have hmem := List.mem_of_getElem? hx
      have hok : Ok w Z (.tup cs) := ((okL_cut hx).1 ((okL_append _ _).1 h.ok).1).2.1
      simp only [Ok] at hok
      have hoc := (okL_cut hc).1 hok
      have hroot : ¬ Pl (rootC (.tup cs)).1 := by simp [rootC, Pl]
      have hnr : NR (.tup cs) := by
        rcases h.sorted _ hmem with hn | hn
        · exact hn
        · simp [NoOwn] at hn
      have hnr' : NR (.tup (cs.set i (.undef (val1 c)))) := by
        simp only [NR] at hnr ⊢
        intro y hy
        rcases List.mem_or_eq_of_mem_set hy with hy | rfl
        · exact hnr y hy
        · exact .inl ⟨_, rfl⟩
      have hvals : val (.tup (cs.set i (.undef (val1 c)))) = val (.tup cs) := by
        simp only [val]
        congr 1
        apply Array.ext'
        simp only
        rw [List.map_set]
        have : val1 (.undef (val1 c)) = val1 c := by simp [val1, flat]
        rw [this]
        apply List.ext_getElem?
        intro j
        by_cases e : i = j
        · subst e
          obtain ⟨hl, hcc⟩ := List.getElem?_eq_some_iff.1 hc
          simp [hl, hcc]
        · rw [List.getElem?_set_ne e]
      have hG := h.swap (x' := .tup (cs.set i (.undef (val1 c)))) (c := c) hx hroot hvals (by simp only [Ok]; rw [okL_set hc]; exact ⟨hoc.1, by simp [Ok], hoc.2.2⟩) hoc.2.1
        (by
          simp only [fp]
          rw [set_at _ hc, fps_cut hc]
          simp only [fps_append, fps, fp, List.nil_append]
          refine Fits.of_perm ?_
          rw [List.append_assoc]
          exact List.Perm.append_left _ List.perm_append_comm)
        hnr'.refOk hnr'.men hnr'.wf (.inl hnr') hP.nr (fun y hy => RefOk.noroot hx hroot y (h.refs y hy))
      have h3 := hG.put o.dst
      refine es_value (w' := w) ?_ ?_ h3
      · have hev := h.eval_tmp hx
        unfold execOp
        rw [val_of_val1 hP.not_tup]
        simp only [ho, hev, val, Instr.extract]
        have : (cs.map val1).toArray[i]? = some (val1 c) := by simp [hc]
        rw [this]
        simp
      · rw [er_cput]
        congr 1
        simp [ers_eq, List.map_set, er]

theorem movetup_sound (h : Good K w0 Z Sc L a w) {o : Oper} {t : Nat} (ho : o.op = .move (.tmp t)) {vs : List AV} (ht : (ers Sc)[t]? = some (.tup vs)) :
    ES P K w0 Z L a w o (aput o.dst (.tup vs) ((ers Sc).set t .undef)) := by
  rw [ers_eq, List.getElem?_map] at ht
  cases hx : Sc[t]? with
  | none => simp [hx] at ht
  | some x =>
    simp only [hx, Option.map_some, Option.some.injEq] at ht
    have hxt : ∃ cs, x = .tup cs ∧ ers cs = vs := by cases x <;> simp [er] at ht; exact ⟨_, rfl, ht⟩
    obtain ⟨cs, rfl, rfl⟩ := hxt
    have hmem := List.mem_of_getElem? hx
    have hok : Ok w Z (.tup cs) := ((okL_cut hx).1 ((okL_append _ _).1 h.ok).1).2.1
    have hroot : ¬ Pl (rootC (.tup cs)).1 := by simp [rootC, Pl]
    have hnr : NR (.tup cs) := by
      rcases h.sorted _ hmem with hn | hn
      · exact hn
      · simp [NoOwn] at hn
    have hG := h.swap (x' := .undef (val (.tup cs))) (c := .tup cs) hx hroot (val_undef _) (by simp [Ok]) hok (by simp only [fp, List.nil_append]; exact Fits.refl _) (by simp [RefOk]) (by simp [men]) (by simp [Wf]) (.inr (by simp [NoOwn])) hnr
      (fun y hy => RefOk.noroot hx hroot y (h.refs y hy))
    refine es_value (w' := w) ?_ ?_ (hG.put o.dst)
    · unfold execOp
      simp [ho, h.eval_tmp hx]
    · rw [er_cput]
      simp [ers_eq, List.map_set, er]
end
end Go.Bv

/-! Stores. -/
namespace Go.Bv
open Go Go.RowKit
set_option linter.unusedSimpArgs false
set_option linter.unusedVariables false
section
variable {K : Nat → Prop} {w0 : World} {Z : Nat → Prop} {Sc L : List CV} {a : Act} {w : World} {P : Program} {Γ : Tab}

/-- Where a place lies: in the block above it, or in one that the value owns; and there is room. -/
theorem loc_get {w : World} {Z : Nat → Prop} : ∀ (p : List Nat) (x : CV) (l : Option Addr) (y : CV) (ad : Addr), cgetN x l p = some (y, some ad) → Ok w Z x →
    (∀ b, l = some b → b.spot = none ∧ ∃ cur E, w.heap[b.block]? = some (.cells cur E (0, 0)) ∧ b.off + (flat x).length ≤ cur.size) →
    (∃ cur E, w.heap[ad.block]? = some (.cells cur E (0, 0)) ∧ ad.off + (flat y).length ≤ cur.size) ∧ ad.spot = none ∧ (ad.block ∈ fp x ∨ ∃ b, l = some b ∧ ad.block = b.block) ∧
    (l = none → ∀ c : CV, flat (csetN x p c) = flat x ∧ ((∃ xs, csetN x p c = .agg xs) ↔ (∃ xs, x = .agg xs)))
  | [], x, l, y, ad, h, hk, hl => by
    simp only [cgetN, Option.some.injEq, Prod.mk.injEq] at h
    obtain ⟨rfl, rfl⟩ := h
    obtain ⟨h1, h2⟩ := hl ad rfl
    exact ⟨h2, h1, .inr ⟨ad, rfl, rfl⟩, fun e => by cases e⟩
  | i :: p, x, l, y, ad, h, hk, hl => by
    cases x <;> simp only [cgetN] at h <;> try (cases h; done)
    · rename_i o s A c xs
      split at h
      · cases h
      rename_i ho
      split at h
      case h_2 => cases h
      rename_i z hz
      simp only [Ok] at hk
      obtain ⟨a1, a2, a3, a4⟩ := hk
      have hi := (List.getElem?_eq_some_iff.1 hz).1
      have ho1 : o = true := by simpa using ho
      have hc0 : c ≠ 0 := by have := a1.1; omega
      obtain ⟨_, ad', cur, E, rfl, hsp, hb, hm, hr⟩ := a1.2.2 ho1 hc0
      have hlz := a2 z (List.mem_of_getElem? hz)
      obtain ⟨g1, g2, g3, g4⟩ := loc_get p z _ y ad h ((okL_cut hz).1 a4).2.1 (fun b hb' => by
        simp only [Option.map_some, Option.some.injEq] at hb'
        subst hb'
        refine ⟨add_spot hsp _, cur, E, by rw [add_block]; exact hb, ?_⟩
        rw [add_eq hsp, hlz]
        simp only
        have : i * s + s ≤ c * s := by
          have : (i + 1) * s ≤ c * s := Nat.mul_le_mul_right s (by have := a1.1; omega)
          rw [Nat.add_mul] at this; omega
        omega)
      refine ⟨g1, g2, .inl ?_, fun _ c' => ?_⟩
      · simp only [fp, List.mem_append]
        rcases g3 with g3 | ⟨b, hb', e⟩
        · right; rw [fps_cut hz]; simp [g3]
        · simp only [Option.map_some, Option.some.injEq] at hb'
          subst hb'
          left
          rw [e, add_block, if_neg (by simp [ho1, hc0])]
          simp
      · simp only [csetN, hz]
        exact ⟨by simp [flat], by simp⟩
    · rename_i xs
      split at h
      case h_2 => cases h
      rename_i z hz
      simp only [Ok] at hk
      obtain ⟨g1, g2, g3, g4⟩ := loc_get p z _ y ad h ((okL_cut hz).1 hk).2.1 (fun b hb' => by
        cases l with
        | none => simp at hb'
        | some b0 =>
          simp only [Option.map_some, Option.some.injEq] at hb'
          subst hb'
          obtain ⟨h1, cur, E, h2, h3⟩ := hl b0 rfl
          refine ⟨add_spot h1 _, cur, E, by rw [add_block]; exact h2, ?_⟩
          simp only [flat] at h3
          rw [flats_cut hz] at h3
          simp only [List.length_append] at h3
          rw [add_eq h1]
          simp only; omega)
      refine ⟨g1, g2, ?_, fun hn c' => ?_⟩
      · rcases g3 with g3 | ⟨b, hb', e⟩
        · left; simp only [fp]; rw [fps_cut hz]; simp [g3]
        · cases l with
          | none => simp at hb'
          | some b0 =>
            simp only [Option.map_some, Option.some.injEq] at hb'
            subst hb'
            right; exact ⟨b0, rfl, by rw [e, add_block]⟩
      · subst hn
        obtain ⟨q1, _⟩ := g4 (by rfl) c'
        simp only [csetN, hz]
        refine ⟨?_, by simp⟩
        simp only [flat]
        rw [flats_set hz, q1, ← flats_cut hz]

theorem fps_csetc {r : Nat} {p : List Nat} {x0 y y' : CV} {l : Option Addr} (hx : Sc[r]? = some x0) (hp : Pl (rootC x0).1) (hpl : Pl y') (hg : cgetN (rootC x0).1 (rootC x0).2 p = some (y, l)) :
    ∃ P1 P2, fps Sc = P1 ++ (fp y ++ P2) ∧ ∃ Q1 Q2, Q1.Sublist P1 ∧ Q2.Sublist P2 ∧ fps (csetc Sc r p y') = Q1 ++ (fp y' ++ Q2) := by
  obtain ⟨L1, R1, hf1, hf2⟩ := fp_set p _ _ y l hg
  have hslot := cset_slot (p := p) (y := y') hx hp hpl
  have hrl := (List.getElem?_eq_some_iff.1 hx).1
  have hlist : csetc Sc r p y' = (cclr r p Sc).set r (csetR x0 p y') := by
    apply List.ext_getElem?
    intro t
    rw [hslot]
    by_cases e : t = r
    · subst e; simp [cclr, hrl]
    · rw [if_neg e, List.getElem?_set_ne (Ne.symm e)]; simp [cclr]
  have hsubl : ∀ xs : List CV, (fps (cclr r p xs)).Sublist (fps xs) := by
    intro xs
    induction xs with
    | nil => simp [cclr, fps]
    | cons x xs ih =>
      simp only [cclr, List.map_cons, fps] at ih ⊢
      refine List.Sublist.append ?_ ih
      split
      · simp [fp]
      · exact List.Sublist.refl _
  have hcx : (cclr r p Sc)[r]? = some x0 := by simp [cclr, hx, root_hit hp]
  obtain ⟨pre, hfpR, hfp0⟩ : ∃ pre, fp (csetR x0 p y') = pre ++ (L1 ++ fp y' ++ R1) ∧ fp x0 = pre ++ (L1 ++ fp y ++ R1) := by
    rcases root_cases hp with ⟨b, ty, z, rfl, hz⟩ | ⟨hz, hrt, hcs⟩
    · simp only [rootC] at hf1 hf2
      exact ⟨[b], by simp [csetR, fp, hf2], by simp [fp, hf1]⟩
    · rw [hrt] at hf1 hf2
      exact ⟨[], by rw [hcs, hf2]; rfl, by rw [hf1]; rfl⟩
  refine ⟨fps (Sc.take r) ++ pre ++ L1, R1 ++ fps (Sc.drop (r + 1)), by rw [fps_cut hx, hfp0]; simp, fps ((cclr r p Sc).take r) ++ pre ++ L1, R1 ++ fps ((cclr r p Sc).drop (r + 1)), ?_, ?_, ?_⟩
  · refine List.Sublist.append (List.Sublist.append ?_ (List.Sublist.refl _)) (List.Sublist.refl _)
    have := hsubl (Sc.take r); simpa [cclr, List.map_take] using this
  · refine List.Sublist.append (List.Sublist.refl _) ?_
    have := hsubl (Sc.drop (r + 1)); simpa [cclr, List.map_drop] using this
  · rw [hlist, set_at _ hcx, fps_append]
    simp [fps, hfpR]

/-- A store of what stands beside the frame into a place. -/
theorem Good.store {c : CV} (h : Good K w0 Z Sc (c :: L) a w) {w' : World} {r : Nat} {p : List Nat} {x0 y : CV} {ad : Addr} (hx : Sc[r]? = some x0) (hp : Pl (rootC x0).1) (hg : cgetN (rootC x0).1 (rootC x0).2 p = some (y, some ad))
    (hpl : Pl c) (hlen : (flat c).length = (flat y).length) (H : Stored w w' ad (flat y).length) (hnew : CellsAt w' ad (flat c)) (hs : w'.heap.size = w.heap.size) (ho : w'.os = w.os) (ht : w'.tape = w.tape) (hu : w'.output = w.output) :
    Good K w0 Z (csetc Sc r p c) L a w' ∧ ∀ u, RefOk Sc u → hit r p u = false → RefOk (csetc Sc r p c) u := by
  have hokA := (okL_append Sc (c :: L)).1 h.ok
  have hokx := ((okL_cut hx).1 hokA.1).2.1
  have hokr := ok_root hokx
  have hndS : (fps Sc ++ (fp c ++ fps L)).Nodup := by have := h.nodup; rwa [fps_append] at this
  have hnd0 : (fp x0).Nodup := by
    have := (List.nodup_append.1 hndS).1
    rw [fps_cut hx] at this
    exact (List.nodup_append.1 (List.nodup_append.1 this).2.1).1
  -- where the place lies
  have hloc := loc_get p _ _ y ad hg hokr.1 (fun b hb => by
    rcases root_cases hp with ⟨b', ty, z, rfl, hz⟩ | ⟨hz, hrt, hcs⟩
    · simp only [rootC, Option.some.injEq] at hb ⊢
      subst hb
      simp only [Ok] at hokx
      exact ⟨rfl, _, ty, hokx.1, by simp⟩
    · rw [hrt] at hb; cases hb)
  obtain ⟨⟨cur0, E0, hb0, hroom0⟩, hsp, hwh, hplain⟩ := hloc
  have hin : ad.block ∈ fp x0 := by
    rcases root_cases hp with ⟨b', ty, z, rfl, hz⟩ | ⟨hz, hrt, hcs⟩
    · simp only [rootC, Option.some.injEq] at hwh
      simp only [fp, List.mem_cons]
      rcases hwh with hw | ⟨b, rfl, e⟩
      · exact .inr hw
      · exact .inl e
    · rw [hrt] at hwh
      rcases hwh with hw | ⟨b, e, _⟩
      · exact hw
      · cases e
  have hinS : ad.block ∈ fps Sc := mem_fps.2 ⟨x0, List.mem_of_getElem? hx, hin⟩
  have hz : ¬ Z ad.block := h.apart _ (by rw [fps_append]; exact List.mem_append.2 (.inl hinS))
  have hcL : ad.block ∉ fp c ∧ ad.block ∉ fps L := by
    have := (List.nodup_append.1 hndS).2.2
    exact ⟨fun hm => this _ hinS _ (List.mem_append.2 (.inl hm)) rfl, fun hm => this _ hinS _ (List.mem_append.2 (.inr hm)) rfl⟩
  have hokc : Ok w' Z c := H.ok hz hcL.1 hokA.2.1
  have hrl := (List.getElem?_eq_some_iff.1 hx).1
  -- the root's content behind the store
  have hU : Upd w' Z ad (flat y).length (rootC x0).1 (csetN (rootC x0).1 p c) (rootC x0).2 := by
    refine upd H hz rfl hlen hnew hokc p _ _ hokr.1 ?_ (fun b hb => ⟨(hokr.2 b hb).1, ?_, (hokr.2 b hb).2⟩) hg
    · rcases root_cases hp with ⟨b', ty, z, rfl, hz⟩ | ⟨hz, hrt, hcs⟩
      · simp only [fp] at hnd0; exact (List.nodup_cons.1 hnd0).2
      · rw [hrt]; exact hnd0
    · rcases root_cases hp with ⟨b', ty, z, rfl, hz⟩ | ⟨hz, hrt, hcs⟩
      · simp only [rootC, Option.some.injEq] at hb ⊢
        subst hb
        simp only [fp] at hnd0; exact (List.nodup_cons.1 hnd0).1
      · rw [hrt] at hb; cases hb
  have hokR : Ok w' Z (csetR x0 p c) := by
    rcases root_cases hp with ⟨b', ty, z, rfl, hz'⟩ | ⟨hz', hrt, hcs⟩
    · simp only [rootC] at hU
      simp only [csetR, Ok] at hokx ⊢
      refine ⟨?_, hU.ok⟩
      have hcells := (hU.at_ ⟨b', 0, none⟩ rfl).1
      rw [cellsAt_iff rfl] at hcells
      obtain ⟨cur', hcur, hsz⟩ : ∃ cur', w'.heap[b']? = some (.cells cur' ty (0, 0)) ∧ cur'.size = (flat z).length := by
        by_cases e : b' = ad.block
        · obtain ⟨cur', q1, q2⟩ := H.hit _ _ (e ▸ hokx.1)
          exact ⟨cur', e ▸ q1, by rw [q2]; simp⟩
        · exact ⟨_, (H.other b' e).trans hokx.1, by simp⟩
      rw [hcur]
      congr 2
      apply Array.ext'
      simp only
      apply List.ext_getElem?
      intro j
      by_cases hj : j < (flat (csetN z p c)).length
      · have := hcells j _ (List.getElem?_eq_getElem hj)
        simp only [World.cell?, hcur, Nat.zero_add, Option.isSome_none, Bool.false_eq_true, if_false] at this
        rw [List.getElem?_eq_getElem hj]
        simpa using this
      · have hl1 : cur'.toList.length ≤ j := by rw [Array.length_toList, hsz, ← hU.len]; omega
        have hl2 : ((flat (csetN z p c)).toArray).toList.length ≤ j := by simp; omega
        rw [List.getElem?_eq_none hl1]
        exact (List.getElem?_eq_none hl2).symm
    · rw [hrt] at hU; rw [hcs]; exact hU.ok
  have hvalR : val (csetR x0 p c) = val x0 := by
    rcases root_cases hp with ⟨b', ty, z, rfl, hz'⟩ | ⟨hz', hrt, hcs⟩
    · simp [csetR, val, val1, flat]
    · rw [hrt] at hplain
      obtain ⟨q1, q2⟩ := hplain rfl c
      rw [hcs]
      exact val_of_flat (Pl.set p _ c hz' hpl).not_tup hz'.not_tup q2 q1
  have hslot := cset_slot (p := p) (y := c) hx hp hpl
  have hrefs : ∀ u, RefOk Sc u → hit r p u = false → RefOk (csetc Sc r p c) u := fun u hu hh => RefOk.set hx hp hpl hg hlen u hh hu
  obtain ⟨P1, P2, e1, Q1, Q2, s1, s2, e2⟩ := fps_csetc (y' := c) hx hp hpl hg
  have hfit : Fits (fps (csetc Sc r p c ++ L)) (fps (Sc ++ c :: L)) := by
    have e3 : fps (csetc Sc r p c ++ L) = Q1 ++ (fp c ++ Q2) ++ fps L := by rw [fps_append, e2]
    have e4 : fps (Sc ++ c :: L) = (P1 ++ (fp y ++ P2)) ++ (fp c ++ fps L) := by rw [fps_append, e1]; simp [fps]
    rw [e3, e4]
    refine Fits.trans (b := (Q1 ++ Q2) ++ (fp c ++ fps L)) (Fits.of_perm ?_) (Fits.of_sublist (List.Sublist.append (List.Sublist.append s1 (List.Sublist.trans s2 (List.sublist_append_right _ _))) (List.Sublist.refl _)))
    simp only [List.append_assoc]
    refine List.Perm.append_left _ ?_
    rw [← List.append_assoc, ← List.append_assoc]
    exact List.Perm.append_right _ List.perm_append_comm
  have hother : ∀ t u, t ≠ r → Sc[t]? = some u → ad.block ∉ fp u := by
    intro t u htr hu hm
    have hnd := (List.nodup_append.1 hndS).1
    rcases Nat.lt_or_ge t r with hlt | hge
    · have hu' : (Sc.take r)[t]? = some u := by rw [List.getElem?_take_of_lt hlt]; exact hu
      rw [fps_cut hx] at hnd
      exact (List.nodup_append.1 hnd).2.2 _ (mem_fps.2 ⟨u, List.mem_of_getElem? hu', hm⟩) _ (List.mem_append.2 (.inl hin)) rfl
    · have hu' : (Sc.drop (r + 1))[t - (r + 1)]? = some u := by rw [List.getElem?_drop]; rw [show r + 1 + (t - (r + 1)) = t by omega]; exact hu
      rw [fps_cut hx] at hnd
      exact (List.nodup_append.1 (List.nodup_append.1 hnd).2.1).2.2 _ hin _ (mem_fps.2 ⟨u, List.mem_of_getElem? hu', hm⟩) rfl
  have hget : ∀ z ∈ csetc Sc r p c, z = csetR x0 p c ∨ ∃ t u, t ≠ r ∧ Sc[t]? = some u ∧ z = if hit r p u then .undef (val u) else u := by
    intro z hz
    obtain ⟨t, ht, rfl⟩ := List.getElem_of_mem hz
    have ht' : (csetc Sc r p c)[t]? = some (csetc Sc r p c)[t] := List.getElem?_eq_getElem ht
    rw [hslot] at ht'
    split at ht'
    · simp only [Option.some.injEq] at ht'; exact .inl ht'.symm
    · rename_i hne
      cases hu : Sc[t]? with
      | none => simp [hu] at ht'
      | some u =>
        simp only [hu, Option.map_some, Option.some.injEq] at ht'
        exact .inr ⟨t, u, hne, hu, ht'.symm⟩
  refine ⟨{ defers := h.defers, size := ?_, tmps := fun t ht' => ?_, ok := ?_, nodup := hfit.nodup h.nodup, apart := fun b hb => h.apart b (hfit.sub b hb), lt := fun b hb => by rw [hs]; exact h.lt b (hb.imp (hfit.sub b) id),
            refs := ?_, wf := ?_, sorted := ?_, nr := fun z hz => h.nr z (List.mem_cons_of_mem _ hz), kept := fun b hb => ⟨(h.kept b hb).1, fun hm => (h.kept b hb).2.1 (hfit.sub b hm), (H.other b fun e => (h.kept b hb).2.1 (e ▸ (by rw [fps_append]; exact List.mem_append.2 (.inl hinS)))).trans (h.kept b hb).2.2⟩,
            os := ho.trans h.os, tape := ht.trans h.tape, output := hu.trans h.output, grew := by rw [hs]; exact h.grew }, hrefs⟩
  · rw [h.size]; simp [csetc, cclr, cset, hx]
  · rw [h.tmps t ht', hslot]
    split
    · rename_i e; subst e; rw [hx]; simp [hvalR]
    · simp only [Option.map_map]
      congr 1; funext z
      simp only [Function.comp]
      split
      · exact (val_undef _).symm
      · rfl
  · rw [okL_append, okL_iff]
    refine ⟨fun z hz' => ?_, H.okL hz hcL.2 hokA.2.2⟩
    rcases hget z hz' with rfl | ⟨t, u, hne, hu', rfl⟩
    · exact hokR
    · split
      · simp [Ok]
      · exact H.ok hz (hother t u hne hu') (((okL_cut hu').1 hokA.1).2.1)
  · intro z hz'
    rcases hget z hz' with rfl | ⟨t, u, hne, hu', rfl⟩
    · rcases root_cases hp with ⟨b, ty, z, rfl, hz⟩ | ⟨hz, hrt, hcs⟩
      · simp [csetR, RefOk]
      · rw [hcs]; exact (Pl.set p _ c hz hpl).refOk
    · split
      · simp [RefOk]
      · rename_i hh; exact hrefs u (h.refs u (List.mem_of_getElem? hu')) (by simpa using hh)
  · intro z hz'
    rcases hget z hz' with rfl | ⟨t, u, hne, hu', rfl⟩
    · rcases root_cases hp with ⟨b, ty, z, rfl, hz⟩ | ⟨hz, hrt, hcs⟩
      · simp only [csetR, Wf]; exact Pl.set p _ c hz hpl
      · rw [hcs]; exact (Pl.set p _ c hz hpl).wf
    · split
      · simp [Wf]
      · exact h.wf u (List.mem_of_getElem? hu')
  · intro z hz'
    rcases hget z hz' with rfl | ⟨t, u, hne, hu', rfl⟩
    · rcases root_cases hp with ⟨b, ty, z, rfl, hz⟩ | ⟨hz, hrt, hcs⟩
      · exact .inl (by simp only [csetR, NR]; exact Pl.set p _ c hz hpl)
      · rw [hcs]; exact .inl (Pl.set p _ c hz hpl).nr
    · split
      · exact .inr (by simp [NoOwn])
      · exact h.sorted u (List.mem_of_getElem? hu')
end
end Go.Bv

/-! The store operation; literals of structs and slices. -/
namespace Go.Bv
open Go Go.RowKit
set_option linter.unusedSimpArgs false
set_option linter.unusedVariables false
section
variable {K : Nat → Prop} {w0 : World} {Z : Nat → Prop} {Sc L : List CV} {a : Act} {w : World} {P : Program} {Γ : Tab}

theorem stored_setRow {g o : Nat} {cur : Array Value} {E : TypeId} {vs : List Value} (hg : w.heap[g]? = some (.cells cur E (0, 0))) (hl : o + vs.length ≤ cur.size) :
    Stored w (w.setRow g (cur.toList.take o ++ vs ++ cur.toList.drop (o + vs.length)).toArray) ⟨g, o, none⟩ vs.length ∧ CellsAt (w.setRow g (cur.toList.take o ++ vs ++ cur.toList.drop (o + vs.length)).toArray) ⟨g, o, none⟩ vs := by
  have hrow := setRow_heap w g cur (cur.toList.take o ++ vs ++ cur.toList.drop (o + vs.length)).toArray E _ hg
  have hlen : (cur.toList.take o).length = o := by simp; omega
  refine ⟨⟨fun b hb => setRow_other w g b _ hb, fun cur' E' h' => ?_, fun k hk => ?_⟩, ?_⟩
  · simp only at h'
    rw [hg] at h'
    simp only [Option.some.injEq, Obj.cells.injEq] at h'
    obtain ⟨rfl, rfl, _⟩ := h'
    refine ⟨_, hrow, ?_⟩
    simp; omega
  · simp only [World.cell?, hrow, hg, Option.isSome_none, Bool.false_eq_true, if_false] at hk ⊢
    simp only [List.getElem?_toArray]
    rcases hk with hk | hk
    · rw [List.append_assoc, List.getElem?_append_left (by rw [hlen]; exact hk), List.getElem?_take_of_lt hk]
      simp
    · rw [List.getElem?_append_right (by simp; omega), List.getElem?_drop]
      simp only [List.length_append, hlen]
      rw [show o + vs.length + (k - (o + vs.length)) = k by omega]
      simp
  · rw [cellsAt_iff rfl]
    intro j v hj
    have hlt := (List.getElem?_eq_some_iff.1 hj).1
    simp only [World.cell?, hrow, Option.isSome_none, Bool.false_eq_true, if_false, List.getElem?_toArray]
    rw [List.append_assoc, List.getElem?_append_right (by rw [hlen]; omega), hlen, show o + j - o = j by omega, List.getElem?_append_left hlt]
    exact hj

theorem asetq_eq (h : Good K w0 Z Sc L a w) {r : Nat} {p : List Nat} {x0 y c : CV} {l : Option Addr} (hx : Sc[r]? = some x0) (hp : Pl (rootC x0).1) (hg : cgetN (rootC x0).1 (rootC x0).2 p = some (y, l)) (hc : Pl c)
    (hs : scalarA (er y) = true) : ∀ u ∈ Sc, hit r p u = false := by
  -- nothing leans below a scalar
  have key : ∀ q (z : CV) lz, cgetN (rootC x0).1 (rootC x0).2 (p ++ q) = some (z, lz) → q = [] := by
    intro q z lz hq
    rw [get_append, hg] at hq
    simp only [Option.bind_some] at hq
    cases q with
    | nil => rfl
    | cons i q => cases y <;> simp [scalarA, er] at hs <;> simp [cgetN] at hq
  have keyref : ∀ q s A c' xs lz, cgetN (rootC x0).1 (rootC x0).2 q = some (.lst true s A c' xs, lz) → p.isPrefixOf q = false := by
    intro q s A c' xs lz hq
    cases hpre : p.isPrefixOf q with
    | false => rfl
    | true =>
      obtain ⟨q', rfl⟩ := List.isPrefixOf_iff_prefix.1 hpre
      have := key q' _ _ hq
      subst this
      rw [List.append_nil, hg] at hq
      simp only [Option.some.injEq, Prod.mk.injEq] at hq
      rw [hq.1] at hs; simp [scalarA, er] at hs
  have main : (∀ u, RefOk Sc u → hit r p u = false) := by
    intro u
    refine CV.rec (motive_1 := fun u => RefOk Sc u → hit r p u = false) (motive_2 := fun us => RefOkL Sc us → hits r p us = false) ?_ ?_ ?_ ?_ ?_ ?_ ?_ ?_ ?_ ?_ ?_ ?_ ?_ ?_ u
    all_goals try (intros; simp [hit]; done)
    · intro xs ih h; simp only [RefOk] at h; simp only [hit]; exact ih h
    · intro xs ih h; simp only [RefOk] at h; simp only [hit]; exact ih h
    · intro f xs ih h; simp only [RefOk] at h; simp only [hit]; exact ih h
    · intro ad x ih h; simp only [RefOk] at h; simp only [hit]; exact ih h
    · intro r' q ad h
      simp only [RefOk] at h
      obtain ⟨x1, y1, h1, h2, h3⟩ := h
      simp only [hit]
      by_cases e : r = r'
      · subst e
        rw [hx] at h1; cases h1
        cases hpre : p.isPrefixOf q with
        | false => simp
        | true =>
          obtain ⟨q', rfl⟩ := List.isPrefixOf_iff_prefix.1 hpre
          have := key q' _ _ h3
          subst this; simp
      · simp [e]
    · intro r' q lo n v h
      simp only [RefOk] at h
      obtain ⟨x1, s, A, c', xs, l', h1, h2, h3, _⟩ := h
      simp only [hit]
      by_cases e : r = r'
      · subst e
        rw [hx] at h1; cases h1
        rw [keyref q s A c' xs l' h3]; simp
      · simp [e]
    · intro _; simp [hits]
    · intro x xs ih1 ih2 h
      simp only [RefOkL] at h
      simp only [hits, ih1 h.1, ih2 h.2, Bool.or_self]
  exact fun u hu => main u (h.refs u hu)

theorem cclr_id {r : Nat} {p : List Nat} : ∀ {xs : List CV}, (∀ u ∈ xs, hit r p u = false) → cclr r p xs = xs := by
  intro xs h
  simp only [cclr]
  conv => rhs; rw [← List.map_id xs]
  apply List.map_congr_left
  intro u hu
  simp [h u hu]

theorem store_sound (hT : TabOk P Γ) (h : Good K w0 Z Sc L a w) {o : Oper} {T : Nat} {x y : Operand} (ho : o.op = .store T x y) (hdst : o.dst = none) {r : Nat} {p : List Nat} {v : AV} (hx : ard (ers Sc) x = some (.at r p)) (hy : ard (ers Sc) y = some v)
    (hno : (arefs v).any (fun rp => hitA rp.1 rp.2 (.at r p)) = false) {v' : AV} {S' : List AV} (ht : atake (ers Sc) v = some (v', S')) {old : AV} (hold : aget S' r p = some old) (hk : Γ.kind T ≠ .no) (hsz : alen v' = Γ.size T) (hso : alen old = Γ.size T) :
    ES P K w0 Z L a w o (asetq S' r p v' old) := by
  obtain ⟨cx, hcx, hvx, hrx, _⟩ := h.rd hx
  obtain ⟨ad, rfl⟩ := er_at hcx
  obtain ⟨c, rfl, hval, hrd, hnt⟩ := h.rd hy
  obtain ⟨u, Sc', e1, e2, hG, hfl, hpl, hag, hrf⟩ := take_good c Sc L h hrd.refOk hrd.wf hrd.ok hrd.fp v' S' ht
  have hrx' : RefOk Sc' (.at r p ad) := by
    refine hrf _ hrx.refOk fun rp hrp => ?_
    have hh : hitA rp.1 rp.2 (.at r p) = false := by
      simp only [refs_er, List.any_eq_false] at hno
      simpa using hno rp hrp
    have := hit_er rp.1 rp.2 (.at r p ad)
    simp only [er] at this
    rw [← this]; exact hh
  obtain ⟨x0, z, h1, h2, h3, h4, h5, h6, h7, h8⟩ := hG.node hrx'
  rw [e2, hold] at h8
  simp only [Option.some.injEq] at h8
  subst h8
  have hlu : (flat u).length = (flat z).length := by rw [← alen_er, ← alen_er, e1, hsz, hso]
  -- the room
  have hokx := ((okL_cut h1).1 ((okL_append _ _).1 hG.ok).1).2.1
  have hloc := loc_get p _ _ z ad h3 (ok_root hokx).1 (fun b hb => by
    rcases root_cases h2 with ⟨b', ty, z', rfl, hz⟩ | ⟨hz, hrt, hcs⟩
    · simp only [rootC, Option.some.injEq] at hb ⊢
      subst hb
      simp only [Ok] at hokx
      exact ⟨rfl, _, ty, hokx.1, by simp⟩
    · rw [hrt] at hb; cases hb)
  obtain ⟨⟨cur, E, hb, hroom⟩, hsp, _, _⟩ := hloc
  have hroom' : ad.off + (flat u).length ≤ cur.size := by omega
  obtain ⟨hst, hnew⟩ := stored_setRow (w := w) (vs := flat u) hb hroom'
  have had : (⟨ad.block, ad.off, none⟩ : Addr) = ad := by cases ad; simp_all
  rw [had] at hst hnew
  obtain ⟨W, hW⟩ : ∃ W, W = w.setRow ad.block (cur.toList.take ad.off ++ flat u ++ cur.toList.drop (ad.off + (flat u).length)).toArray := ⟨_, rfl⟩
  rw [← hW] at hst hnew
  rw [hlu] at hst
  obtain ⟨hG2, _⟩ := hG.store h1 h2 h3 hpl hlu hst hnew (by rw [hW]; exact size_setRow _ _ _) (by rw [hW]; rfl) (by rw [hW]; rfl) (by rw [hW]; rfl)
  refine es_skip (w' := W) ?_ ?_ ?_ (Sc' := csetc Sc' r p u)
  · unfold execOp
    simp only [ho]
    have hvu : val u = val c := val_same hfl hpl hag hnt
    have hvx' : a.eval x = .pointer (some ad) := by rw [← hvx]; rfl
    have hsize := run_size (P := P) hT hk w
    have hcs : (val u).cells = (flat u).toArray := cells_val hpl
    have hcell := run_storeCells_at P ad.block ad.off E (flat u) 0 cur w hb (by simpa using hroom') (Pl.one u hpl)
    rw [had] at hcell
    simp only [Nat.add_zero] at hcell
    rw [hvx', ← hval, ← hvu]
    have hne : ((flat u).toArray).size = Γ.size T := by rw [← hsz, ← e1, alen_er]; simp
    simp only [Instr.storeAt, Instr.sureAddr, Sem.run_bind, Sem.run_pure, Result.andThen_ok, storeVar, hcs, hsize, hne, ne_eq, not_true, if_false, hcell, hW]
  · unfold asetq
    split
    · rename_i hsc
      have hid := asetq_eq hG h1 h2 h3 hpl hsc.1
      have hx0c : (cset Sc' r p u) = csetc Sc' r p u := by
        unfold csetc
        refine (cclr_id fun q hq => ?_).symm
        unfold cset at hq
        rw [h1] at hq
        rcases List.mem_or_eq_of_mem_set hq with hq | rfl
        · exact hid q hq
        · exact root_hit (by rw [rootC_csetR h2 hpl]; exact Pl.set p _ u h2 hpl)
      rw [← hx0c, er_cset, e2, e1]
    · rw [er_csetc, e2, e1]
  · rw [hdst]; exact hG2
end
end Go.Bv

/-! make of a slice. -/
namespace Go.Bv
open Go Go.RowKit
set_option linter.unusedSimpArgs false
set_option linter.unusedVariables false
section
variable {K : Nat → Prop} {w0 : World} {Z : Nat → Prop} {Sc L : List CV} {a : Act} {w : World} {P : Program} {Γ : Tab}

theorem flats_rep (c : CV) : ∀ (n j : Nat) (v : Value), (flats (List.replicate n c))[j]? = some v → (flat c)[j % (flat c).length]? = some v ∧ j < n * (flat c).length
  | 0, j, v, h => by simp [flats] at h
  | n + 1, j, v, h => by
    simp only [List.replicate_succ, flats] at h
    by_cases hj : j < (flat c).length
    · rw [List.getElem?_append_left hj] at h
      rw [Nat.mod_eq_of_lt hj]
      refine ⟨h, ?_⟩
      rw [Nat.add_mul]; omega
    · rw [List.getElem?_append_right (by omega)] at h
      obtain ⟨h1, h2⟩ := flats_rep c n _ v h
      rw [Nat.mod_eq_sub_mod (by omega)]
      refine ⟨h1, ?_⟩
      rw [Nat.add_mul]; omega

theorem ers_rep (n : Nat) (c : CV) : ers (List.replicate n c) = List.replicate n (er c) := by simp [ers_eq]
theorem fps_rep (n : Nat) (c : CV) (h : fp c = []) : fps (List.replicate n c) = [] := by
  induction n with
  | zero => rfl
  | succ n ih => simp [List.replicate_succ, fps, h, ih]

theorem make_sound (hT : TabOk P Γ) (h : Good K w0 Z Sc L a w) {o : Oper} {T E : Nat} {x y : Operand} (ho : o.op = .makeSlice T x y) (hk : Γ.kind T = .sl E) {z : AV} (hz : Γ.zero E = some z) (hE : Γ.kind E ≠ .no)
    {k1 k2 : IntKind} {n m : Nat} (hx : ard (ers Sc) x = some (.int k1 (n : Int))) (hy : ard (ers Sc) y = some (.int k2 (m : Int))) (hnm : n ≤ m) (hE0 : Γ.size E ≠ 0) (hb : Γ.bytes E * m ≤ 281474976710656) (hm : m ≤ maxLen) :
    ES P K w0 Z L a w o (aput o.dst (.lst true (Γ.size E) (List.replicate n z)) (ers Sc)) := by
  obtain ⟨hp, i, v, h1, h2, h3, h4⟩ := hT.zero E z hz
  obtain ⟨i', h1', hsz, hby⟩ := hT.size E hE
  rw [h1] at h1'; cases h1'
  obtain ⟨c, e1, e2, e3, e4, e5⟩ := zcells_ok z hp
  obtain ⟨cx, ex, vx, _⟩ := h.rd hx
  obtain ⟨cy, ey, vy, _⟩ := h.rd hy
  have hvx : a.eval x = .int k1 n := by rw [← vx]; cases cx <;> simp [er] at ex; obtain ⟨rfl, rfl⟩ := ex; rfl
  have hvy : a.eval y = .int k2 m := by rw [← vy]; cases cy <;> simp [er] at ey; obtain ⟨rfl, rfl⟩ := ey; rfl
  have hcl : (flat c).length = i.size := by rw [e2, ← h3, Array.length_toList, h4]
  have hm63 : (m : Int) ≤ 9223372036854775807 := by unfold maxLen at hm; omega
  have hrun := run_make (P := P) w T E i v (hT.sl T E hk) h1 h2 k1 k2 n m (by omega) (by omega) (by rw [hby]; have := Int.ofNat_le.2 hb; rw [Int.natCast_mul] at this; exact this) hm63
  simp only [Int.toNat_natCast] at hrun
  have hG := (h.add (c := .bool false) (by simp [Ok]) (by simp [fp]) (by simp [NR, Pl])).block (M := [.bool false]) (c := .lst true i.size (some ⟨w.heap.size, 0, none⟩) m (List.replicate n c)) (o := .cells (madeCells v.cells (m * i.size)) E) ?_ ?_ ?_
  · refine es_value (w' := w.alloc (.cells (madeCells v.cells (m * i.size)) E)) ?_ ?_ (hG.put o.dst)
    · unfold execOp
      simp only [ho, hvx, hvy, Sem.run_bind, hrun, Result.andThen_ok]
      simp [val, val1, flat]
    · rw [er_cput]; simp [er, ers_rep, e1, hsz]
  · simp only [fp, fps_rep n c e4, List.append_nil, fps]
    refine Fits.of_sublist ?_
    split <;> simp
  · simp only [Ok]
    refine ⟨⟨by simpa using hnm, ?_, ?_⟩, fun u hu => ?_, fun h0 => by simp at h0, (okL_iff _).2 fun u hu => ?_⟩
    · refine .inr ⟨_, rfl, rfl, ?_, by simp⟩
      rw [cellsAt_iff rfl]
      intro j u hj
      obtain ⟨q1, q2⟩ := flats_rep c n j u hj
      rw [hcl] at q1 q2
      have hjm : j < m * i.size := Nat.lt_of_lt_of_le q2 (Nat.mul_le_mul_right _ hnm)
      simp only [World.cell?, heap_alloc_new, Nat.zero_add, Option.isSome_none, Bool.false_eq_true, if_false]
      rw [e2, ← h3] at q1
      have hs0 : j % i.size < v.cells.size := by
        have := (List.getElem?_eq_some_iff.1 q1).1
        simpa using this
      rw [Array.getElem?_toList] at q1
      simp only [madeCells, h4, Array.getElem?_map]
      have hr : (Array.range (m * i.size))[j]? = some j := by simp [hjm]
      rw [hr]
      simp only [Option.map_some]
      rw [Array.getElem?_eq_getElem hs0] at q1
      rw [← q1, getElem!_pos v.cells _ hs0]
    · intro _ hc0
      refine ⟨by rw [hsz]; exact hE0, _, _, _, rfl, rfl, heap_alloc_new w _, hm, ?_⟩
      simp [size_madeCells]
    · rw [List.eq_of_mem_replicate hu]; exact hcl
    · rw [List.eq_of_mem_replicate hu]; exact e5 _ _
  · simp only [NR, Pl]
    rw [plL_iff]
    intro u hu
    rw [List.eq_of_mem_replicate hu]; exact e3
end
end Go.Bv

/-! Rules for code over by-value frames. -/
namespace Go.Bv
open Go Go.RowKit
set_option linter.unusedSimpArgs false
set_option linter.unusedVariables false

/-- The block of the one variable that is read: how long a text the machine's own search takes. -/
def gMax (P : Program) : Option Nat := P.globalNamed "internal/bytealg.MaxLen"
/-- It stands, and holds a number. -/
def GK (P : Program) (K : Nat → Prop) (w0 : World) : Prop := ∀ g, gMax P = some g → K g ∧ ∃ m, w0.cell? ⟨g, 0, none⟩ = some (.int .i64 m)
/-- So before a call that is handed these blocks. -/
def GW (P : Program) (w : World) (fs : List Nat) : Prop := ∀ g, gMax P = some g → (g < w.heap.size ∧ g ∉ fs) ∧ ∃ m, w.cell? ⟨g, 0, none⟩ = some (.int .i64 m)
theorem GW.mono {P : Program} {w : World} {fs fs' : List Nat} (h : GW P w fs) (hs : ∀ b ∈ fs', b ∈ fs) : GW P w fs' := fun g hg => ⟨⟨(h g hg).1.1, fun hm => (h g hg).1.2 (hs g hm)⟩, (h g hg).2⟩
theorem Good.gw {P : Program} {K : Nat → Prop} {w0 : World} {Z : Nat → Prop} {Sc L : List CV} {a : Act} {w : World} (h : Good K w0 Z Sc L a w) (hK : GK P K w0) : GW P w (fps (Sc ++ L)) := fun g hg => by
  obtain ⟨k, m, hm⟩ := hK g hg
  obtain ⟨k1, k2, k3⟩ := h.kept g k
  exact ⟨⟨Nat.lt_of_lt_of_le k1 h.grew, k2⟩, m, by rw [← hm]; exact World.cell?_of_block k3⟩
/-- b: blocks that are kept. f: real slots that stand. -/
structure Kp (P : Program) where
  b : Nat → Prop
  f : Nat → Option Value
/-- This slot is none that stands. -/
def Kp.free {P : Program} (K : Kp P) : Option Nat → Prop
  | none => True
  | some d => K.f d = none
/-- No operation writes a slot that stands. -/
def Kp.frees {P : Program} (K : Kp P) : Code → Prop
  | .region _ ops _ => ∀ o ∈ ops.toList, K.free o.dst
  | .seq x y => K.frees x ∧ K.frees y
  | .cond _ x y => K.frees x ∧ K.frees y
  | .block _ c => K.frees c
  | .loop c => K.frees c
  | _ => True
theorem Kp.free_none {P : Program} (b : Nat → Prop) (d : Option Nat) : (Kp.mk (P := P) b fun _ => none).free d := by cases d <;> simp [Kp.free]
theorem Kp.frees_none {P : Program} (b : Nat → Prop) (c : Code) : (Kp.mk (P := P) b fun _ => none).frees c := by
  induction c <;> simp_all [Kp.frees, Kp.free_none]

/-- The frame stands, by value, at S. -/
def At0 (K : Nat → Prop) (w0 : World) (Z0 : Nat → Prop) (S : List AV) (a : Act) (w : World) : Prop :=
  ∃ Z Sc, (∀ b, Z0 b → Z b) ∧ (∀ b, Z b → Z0 b ∨ w0.heap.size ≤ b) ∧ ers Sc = S ∧ Good K w0 Z Sc [] a w
def At {P : Program} (K : Kp P) (w0 : World) (Z0 : Nat → Prop) (S : List AV) (a : Act) (w : World) : Prop :=
  At0 K.b w0 Z0 S a w ∧ (∀ t v, K.f t = some v → a.tmps[t]? = some v) ∧ GK P K.b w0

/-- An operation turns S into S'. -/
def AO0 (P : Program) (o : Oper) (S S' : List AV) : Prop :=
  ∀ K w0 Z0 a w, GK P K w0 → At0 K w0 Z0 S a w → ∀ Q, o.wp P a w (fun a' w' => At0 K w0 Z0 S' a' w') Q
def AO (P : Program) (o : Oper) (S S' : List AV) : Prop :=
  ∀ (K : Kp P) w0 Z0 a w, K.free o.dst → At K w0 Z0 S a w → ∀ Q, o.wp P a w (fun a' w' => At K w0 Z0 S' a' w') Q
/-- Code, from S: where it may end. -/
def AW (P : Program) (c : Code) (S : List AV) (Q : Exit → List AV → Prop) : Prop :=
  ∀ (K : Kp P) w0 Z0 a w, K.frees c → At K w0 Z0 S a w → c.wp P (fun e a' w' => ∃ S', Q e S' ∧ At K w0 Z0 S' a' w') a w

theorem put_other {a : Act} {dst : Option Nat} {v : Value} {t : Nat} (h : dst ≠ some t) : (a.put dst v).tmps[t]? = a.tmps[t]? := by
  cases dst with
  | none => rfl
  | some d =>
    simp only [Act.put]
    exact Array.getElem?_setIfInBounds_ne (fun e => h (by rw [e]))
theorem wp_fix {P : Program} {o : Oper} {a : Act} {w : World} {N : Act → World → Prop} {Q : Exit → Act → World → Prop} (h : o.wp P a w N Q) :
    o.wp P a w (fun a' w' => N a' w' ∧ ∀ t, o.dst ≠ some t → a'.tmps[t]? = a.tmps[t]?) Q := by
  unfold Oper.wp at *
  generalize (execOp a.eval o).run P w = r at *
  cases r with
  | ok n w' =>
    cases n <;> simp only [Oper.upon] at h ⊢ <;>
      first
        | exact ⟨h, fun t ht => put_other ht⟩
        | exact ⟨h, fun t ht => rfl⟩
        | exact Calls.mono h (fun e w'' he => by cases e <;> first | exact ⟨he, fun t ht => put_other ht⟩ | exact he)
        | exact Rows.mono h (fun _ _ he => ⟨he, fun t ht => put_other ht⟩)
  | halt x w' => cases x <;> simp only [Oper.upon] at h ⊢ <;> exact h
theorem ao_of {P : Program} {o : Oper} {S S' : List AV} (h : AO0 P o S S') : AO P o S S' := fun K w0 Z0 a w hf hA Q =>
  Oper.wp_mono (fun a' w' ⟨h1, h2⟩ => ⟨h1, ⟨fun t v ht => by
    rw [h2 t (fun e => by rw [e] at hf; simp only [Kp.free] at hf; rw [hf] at ht; cases ht)]
    exact hA.2.1 t v ht, hA.2.2⟩⟩) (wp_fix (h K.b w0 Z0 a w hA.2.2 hA.1 Q))

def thenA (N : List AV → Prop) (Q : Exit → List AV → Prop) : Exit → List AV → Prop
  | .normal, S => N S
  | e, S => Q e S
def blockA (id : Nat) (Q : Exit → List AV → Prop) : Exit → List AV → Prop
  | .exit i, S => if i = id then Q .normal S else Q (.exit i) S
  | e, S => Q e S

section
variable {P : Program} {Γ : Tab} {S : List AV} {Q : Exit → List AV → Prop}

theorem aw_mono {c : Code} {Q' : Exit → List AV → Prop} (h : AW P c S Q) (hq : ∀ e S, Q e S → Q' e S) : AW P c S Q' :=
  fun K w0 Z0 a w hF hA => wp_mono (h K w0 Z0 a w hF hA) fun e a' w' ⟨S', q, hS⟩ => ⟨S', hq e S' q, hS⟩
theorem aw_skip (h : Q .normal S) : AW P .skip S Q := fun _ _ _ _ _ _ hA => wp_skip ⟨S, h, hA⟩
theorem aw_exit {id : Nat} (h : Q (.exit id) S) : AW P (.exit id) S Q := fun _ _ _ _ _ _ hA => wp_exit ⟨S, h, hA⟩
theorem aw_ret (h : Q .ret S) : AW P .ret S Q := fun _ _ _ _ _ _ hA => wp_ret ⟨S, h, hA⟩
theorem aw_seq {x y : Code} (h : AW P x S (thenA (fun S' => AW P y S' Q) Q)) : AW P (.seq x y) S Q := fun K w0 Z0 a w hF hA =>
  wp_seq (wp_mono (h K w0 Z0 a w hF.1 hA) fun e a' w' ⟨S', q, hS⟩ => by
    cases e with
    | normal => exact q K w0 Z0 a' w' hF.2 hS
    | _ => exact ⟨S', q, hS⟩)
theorem aw_block {id : Nat} {c : Code} (h : AW P c S (blockA id Q)) : AW P (.block id c) S Q := fun K w0 Z0 a w hF hA =>
  wp_block (wp_mono (h K w0 Z0 a w hF hA) fun e a' w' ⟨S', q, hS⟩ => by
    cases e with
    | exit i =>
      simp only [Exit.inBlock, blockA] at q ⊢
      split
      · rename_i hi; simp only [hi, if_true] at q; exact ⟨S', q, hS⟩
      · rename_i hi; simp only [hi, if_false] at q; exact ⟨S', q, hS⟩
    | _ => exact ⟨S', q, hS⟩)
theorem At.bool {K : Kp P} {w0 : World} {Z0 : Nat → Prop} {a : Act} {w : World} (h : At K w0 Z0 S a w) {x : Operand} {t : Bool} (hx : ard S x = some (.bool t)) : a.eval x = .bool t := by
  obtain ⟨⟨Z, Sc, _, _, rfl, hG⟩, _⟩ := h
  obtain ⟨c, e1, e2, _⟩ := hG.rd hx
  rw [er_bool e1] at e2
  rw [← e2]; rfl
theorem aw_cond {c : Operand} {x y : Code} {t : Bool} (hc : ard S c = some (.bool t)) (h1 : t = true → AW P x S Q) (h2 : t = false → AW P y S Q) : AW P (.cond c x y) S Q := fun K w0 Z0 a w hF hA =>
  wp_cond_split (hA.bool hc) (fun ht => h1 ht K w0 Z0 a w hF.1 hA) (fun ht => h2 ht K w0 Z0 a w hF.2 hA)

/-- Slots that are no longer needed. -/
def clr (S : List AV) : List Nat → List AV
  | [] => S
  | t :: ts => clr (aput (some t) .undef S) ts
theorem At.clr1 {K : Kp P} {w0 : World} {Z0 : Nat → Prop} {a : Act} {w : World} (h : At K w0 Z0 S a w) (t : Nat) : At K w0 Z0 (aput (some t) .undef S) a w := by
  obtain ⟨⟨Z, Sc, z1, z2, rfl, hG⟩, hfx⟩ := h
  have hp := hG.putq (some t) (c := .undef (a.tmps.getD t undef)) (by simp [RefOk]) (by simp [Wf]) (by simp [Ok]) (by simp [NoOwn])
  refine ⟨⟨Z, cput (some t) (.undef (a.tmps.getD t undef)) Sc, z1, z2, ?_, ?_⟩, hfx⟩
  · rw [er_cput]; simp [er]
  · have : a.put (some t) (val (.undef (a.tmps.getD t undef))) = a := by
      rw [val_undef]
      cases a with
      | mk tmps defers =>
        simp only [Act.put]
        congr 1
        apply Array.ext
        · simp
        · intro i h1 h2
          rw [Array.getElem_setIfInBounds h2]
          split
          · rename_i e; subst e; simp [Array.getD, h2]
          · rfl
    rw [this] at hp
    exact hp
theorem At.clrs {K : Kp P} {w0 : World} {Z0 : Nat → Prop} {a : Act} {w : World} : ∀ (ts : List Nat) {S : List AV}, At K w0 Z0 S a w → At K w0 Z0 (clr S ts) a w
  | [], _, h => h
  | t :: ts, _, h => At.clrs ts (h.clr1 t)

theorem aw_loop {c : Code} (ts : List Nat) (I : Nat → List AV → Prop) (n0 : Nat) (h0 : I n0 (clr S ts))
    (round : ∀ n S, I n S → AW P c S (thenA (fun S' => ∃ n', n' < n ∧ I n' (clr S' ts)) Q)) : AW P (.loop c) S Q := fun K w0 Z0 a w hF hA =>
  wp_loop_ghost (fun n a w => ∃ S, I n S ∧ At K w0 Z0 S a w) n0 ⟨_, h0, hA.clrs ts⟩ fun n a w ⟨S, hI, hS⟩ =>
    wp_mono (round n S hI K w0 Z0 a w hF hS) fun e a' w' ⟨S', q, hS'⟩ => by
      cases e with
      | normal => obtain ⟨n', hlt, hI'⟩ := q; exact ⟨n', hlt, _, hI', hS'.clrs ts⟩
      | _ => exact ⟨S', q, hS'⟩
theorem aw_clr {c : Code} (ts : List Nat) (h : AW P c (clr S ts) Q) : AW P c S Q := fun K w0 Z0 a w hF hA => h K w0 Z0 a w hF (hA.clrs ts)

/-! ### regions -/
/-- A list of operations, one behind the other. -/
def AR (P : Program) (ops : Array Oper) : List Oper → List AV → (List AV → Prop) → Prop := fun l S N =>
  ∀ (K : Kp P) w0 Z0 a w, (∀ o ∈ l, K.free o.dst) → At K w0 Z0 S a w → ∀ (Q : Exit → Act → World → Prop), (∀ S' a' w', N S' → At K w0 Z0 S' a' w' → Q .normal a' w') → ∀ k, (∀ j, l[j]? = ops[k + j]?) → wpOps P ops Q (List.range' k l.length) a w
theorem ar_nil {ops : Array Oper} {N : List AV → Prop} (h : N S) : AR P ops [] S N := fun K w0 Z0 a w _ hA Q hQ k _ => by
  simp only [List.length_nil, List.range'_zero, wpOps]
  exact hQ S a w h hA
theorem wanted_none {o : Oper} (h : o.guard = none) (y : Nat → Option Bool) : Region.wanted o y = true := by simp [Region.wanted, h]
theorem ar_op {ops : Array Oper} {o : Oper} {l : List Oper} {S' : List AV} {N : List AV → Prop} (hg : o.guard = none) (ho : AO P o S S') (h : AR P ops l S' N) : AR P ops (o :: l) S N := fun K w0 Z0 a w hF hA Q hQ k hk => by
  have h0 : ops[k]? = some o := by have := hk 0; simpa using this.symm
  simp only [List.length_cons, List.range'_succ, wpOps, h0, wanted_none hg, if_true]
  refine .inl (Oper.wp_mono (fun a' w' hA' => h K w0 Z0 a' w' (fun q hq => hF q (by simp [hq])) hA' Q hQ (k + 1) fun j => ?_) (ho K w0 Z0 a w (hF o (by simp)) hA Q))
  have := hk (j + 1)
  rw [List.getElem?_cons_succ] at this
  rw [this]; congr 1; omega
theorem aw_region {id : Nat} {l : List Oper} {N : List AV → Prop} (h : AR P l.toArray l S N) (hN : ∀ S', N S' → Q .normal S') : AW P (.region id l.toArray false) S Q := fun K w0 Z0 a w hF hA => by
  refine wp_region ?_
  have := h K w0 Z0 a w (by simpa [Kp.frees] using hF) hA (fun e a' w' => ∃ S', Q e S' ∧ At K w0 Z0 S' a' w') (fun S' a' w' n hS => ⟨S', hN S' n, hS⟩) 0 (fun j => by simp)
  rw [List.range_eq_range']
  simpa using this
theorem At.drawn {K : Kp P} {w0 : World} {Z0 : Nat → Prop} {a : Act} {w : World} (h : At K w0 Z0 S a w) : At K w0 Z0 S a { w with drawn := w.drawn + 1 } := by
  obtain ⟨⟨Z, Sc, z1, z2, e, hG⟩, hfx⟩ := h
  exact ⟨⟨Z, Sc, z1, z2, e, hG.world (fun _ _ => rfl) (Nat.le_refl _) rfl rfl rfl⟩, hfx⟩

/-! ### the quiet ones, by computation -/
/-- One quiet operation, told by the plain step. -/
def aq (Γ : Tab) (S : List AV) (o : Oper) : Option (List AV) := match o.guard with
  | none => (match qv Γ S o with | some v => some (aput o.dst v S) | none => none)
  | some _ => none
def aqs (Γ : Tab) : List Oper → List AV → Option (List AV)
  | [], S => some S
  | o :: l, S => match aq Γ S o with | some S' => aqs Γ l S' | none => none

theorem qv_step (hT : TabOk P Γ) {o : Oper} {v : AV} (hv : qv Γ S o = some v) {K : Kp P} {w0 : World} {Z0 : Nat → Prop} {a : Act} {w : World} (hf : K.free o.dst) (hA : At K w0 Z0 S a w) :
    ∃ u, (execOp a.eval o).run P w = .ok (.value u) w ∧ At K w0 Z0 (aput o.dst v S) (a.put o.dst u) w := by
  obtain ⟨⟨Z, Sc, z1, z2, rfl, hG⟩, hfx⟩ := hA
  obtain ⟨c, e1, hr, hrd, _⟩ := qv_sound hT hG hv
  refine ⟨val c, hr, ⟨Z, cput o.dst c Sc, z1, z2, by rw [er_cput, e1], hG.putRd o.dst hrd⟩, fun t v ht => ?_, hfx.2⟩
  rw [put_other (fun e => by rw [e] at hf; simp only [Kp.free] at hf; rw [hf] at ht; cases ht)]
  exact hfx.1 t v ht
theorem aq_AO (hT : TabOk P Γ) {o : Oper} {v : AV} (hv : qv Γ S o = some v) : AO P o S (aput o.dst v S) := fun K w0 Z0 a w hf hA Q => by
  obtain ⟨u, hr, hS⟩ := qv_step hT hv hf hA
  unfold Oper.wp
  rw [hr]
  exact hS
theorem aqs_ar (hT : TabOk P Γ) {ops : Array Oper} {N : List AV → Prop} : ∀ (l1 : List Oper) {l2 : List Oper} {S S' : List AV}, aqs Γ l1 S = some S' → AR P ops l2 S' N → AR P ops (l1 ++ l2) S N
  | [], l2, S, S', h, h2 => by simp only [aqs, Option.some.injEq] at h; subst h; exact h2
  | o :: l1, l2, S, S', h, h2 => by
    simp only [aqs, aq] at h
    split at h
    · rename_i S1 h1
      split at h1
      · rename_i hg
        split at h1
        · rename_i v hv
          simp only [Option.some.injEq] at h1
          subst h1
          exact ar_op hg (aq_AO hT hv) (aqs_ar hT l1 h h2)
        · cases h1
      · cases h1
    · cases h
theorem aw_quiet (hT : TabOk P Γ) {id : Nat} {l : List Oper} {S' : List AV} (h : aqs Γ l S = some S') (hQ : Q .normal S') : AW P (.region id l.toArray false) S Q :=
  aw_region (N := fun S2 => S2 = S') (by have := aqs_ar hT (ops := l.toArray) (N := fun S2 => S2 = S') l (l2 := []) h (ar_nil rfl); simpa using this) (fun _ e => e ▸ hQ)
end
end Go.Bv

/-! The table of a program's types, read off the program. -/
namespace Go.Bv
open Go Go.RowKit
set_option linter.unusedSimpArgs false
set_option linter.unusedVariables false

def kindOf (P : Program) (T : Nat) : Kd :=
  match P.info? T, P.underlying T with
  | some _, some (.int k) => .int k
  | some _, some .bool => .bool
  | some _, some .string => .str
  | some _, some (.slice E) => .sl E
  | some _, some (.struct F) => .st (F.toList.map (·.type))
  | some _, some (.pointer _) => .ptr
  | _, _ => .no
/-- How many cells an element of this slice type takes. -/
def tagOf (P : Program) (T : Nat) : Nat := match kindOf P T with | .sl E => (match P.info? E with | some i => i.size | none => 0) | _ => 0
def zread1 (k : Nat) : Value → Option AV
  | .bool b => some (.bool b)
  | .int k n => some (.int k n)
  | .string s => some (.str s)
  | .slice none 0 0 => some (.lst true k [])
  | _ => none
mutual
/-- The value that stands in the first of the cells. -/
def zread (P : Program) : Nat → Nat → List Value → Option (AV × List Value)
  | 0, _, _ => none
  | n + 1, T, cs => match kindOf P T with
    | .st fs => (match zreads P n fs cs with | some (zs, r) => some (.agg zs, r) | none => none)
    | _ => (match cs with | c :: r => (match zread1 (tagOf P T) c with | some z => some (z, r) | none => none) | [] => none)
def zreads (P : Program) : Nat → List Nat → List Value → Option (List AV × List Value)
  | 0, _, _ => none
  | _ + 1, [], cs => some ([], cs)
  | n + 1, T :: Ts, cs => match zread P n T cs with
    | some (z, r) => (match zreads P n Ts r with | some (zs, r') => some (z :: zs, r') | none => none)
    | none => none
end
def zeroOf (P : Program) (T : Nat) : Option AV :=
  match P.info? T with
  | some i => (match i.zero with
    | some v => if v.cells.size = i.size then (match zread P 40 T v.cells.toList with | some (z, []) => some z | _ => none) else none
    | none => none)
  | none => none
def tabOf (P : Program) : Tab where
  kind := kindOf P
  size T := match P.info? T with | some i => i.size | none => 0
  bytes T := match P.info? T with | some i => i.bytes | none => 0
  off T f := match P.underlying T with | some (.struct F) => (match F[f]? with | some fd => fd.offset | none => 0) | _ => 0
  zero := zeroOf P

theorem zread1_ok {k : Nat} {v : Value} {z : AV} (h : zread1 k v = some z) : zplain z = true ∧ zcells z = [v] := by
  cases v with
  | slice a n c =>
    simp only [zread1] at h
    split at h <;> try (cases h; done)
    all_goals (simp only [Option.some.injEq] at h; subst h; simp_all [zplain, zcells])
  | _ => simp [zread1] at h <;> (subst h; simp [zplain, zcells])
mutual
theorem zread_ok (P : Program) : ∀ (n T : Nat) (cs : List Value) (z : AV) (r : List Value), zread P n T cs = some (z, r) → zplain z = true ∧ cs = zcells z ++ r
  | 0, _, _, _, _, h => by simp [zread] at h
  | n + 1, T, cs, z, r, h => by
    simp only [zread] at h
    split at h
    · split at h
      · rename_i zs r' hz
        simp only [Option.some.injEq, Prod.mk.injEq] at h
        obtain ⟨rfl, rfl⟩ := h
        obtain ⟨h1, h2⟩ := zreads_ok P n _ cs zs r' hz
        exact ⟨by simpa [zplain] using h1, by simpa [zcells] using h2⟩
      · cases h
    · split at h
      · split at h
        · rename_i z' hz
          simp only [Option.some.injEq, Prod.mk.injEq] at h
          obtain ⟨rfl, rfl⟩ := h
          obtain ⟨h1, h2⟩ := zread1_ok hz
          exact ⟨h1, by rw [h2]; rfl⟩
        · cases h
      · cases h
theorem zreads_ok (P : Program) : ∀ (n : Nat) (Ts : List Nat) (cs : List Value) (zs : List AV) (r : List Value), zreads P n Ts cs = some (zs, r) → zplains zs = true ∧ cs = zcellss zs ++ r
  | 0, _, _, _, _, h => by simp [zreads] at h
  | n + 1, [], cs, zs, r, h => by
    simp only [zreads, Option.some.injEq, Prod.mk.injEq] at h
    obtain ⟨rfl, rfl⟩ := h
    simp [zplains, zcellss]
  | n + 1, T :: Ts, cs, zs, r, h => by
    simp only [zreads] at h
    split at h
    · rename_i z r1 hz
      split at h
      · rename_i zs' r' hzs
        simp only [Option.some.injEq, Prod.mk.injEq] at h
        obtain ⟨rfl, rfl⟩ := h
        obtain ⟨h1, h2⟩ := zread_ok P n T cs z r1 hz
        obtain ⟨h3, h4⟩ := zreads_ok P n Ts r1 zs' r' hzs
        exact ⟨by simp [zplains, h1, h3], by rw [h2, h4]; simp [zcellss]⟩
      · cases h
    · cases h
end
theorem kindOf_info {P : Program} {T : Nat} (h : kindOf P T ≠ .no) : ∃ i, P.info? T = some i := by
  unfold kindOf at h
  cases hi : P.info? T with
  | none => simp [hi] at h
  | some i => exact ⟨i, rfl⟩
theorem kindOf_under {P : Program} {T : Nat} {k : Kd} (h : kindOf P T = k) (hk : k ≠ .no) : ∃ d, P.underlying T = some d ∧ (match d with
    | .int q => k = .int q | .bool => k = .bool | .string => k = .str | .slice E => k = .sl E | .struct F => k = .st (F.toList.map (·.type)) | .pointer _ => k = .ptr | _ => False) := by
  subst h
  unfold kindOf at hk ⊢
  cases hi : P.info? T with
  | none => simp [hi] at hk
  | some i =>
    cases hu : P.underlying T with
    | none => simp [hi, hu] at hk
    | some d =>
      refine ⟨d, rfl, ?_⟩
      simp only [hi, hu] at hk ⊢
      cases d <;> simp_all
def kdOf : TypeDesc → Kd
  | .int k => .int k
  | .bool => .bool
  | .string => .str
  | .slice E => .sl E
  | .struct F => .st (F.toList.map (·.type))
  | .pointer _ => .ptr
  | _ => .no
theorem info_eq {P : Program} {T : Nat} {i : TypeInfo} (h : P.types[T]? = some i) : P.info? T = some i := by
  have hl := (Array.getElem?_eq_some_iff.1 h).1
  unfold Go.Tables.info?
  rw [if_pos hl]; exact h
theorem kind_eq {P : Program} {T : Nat} {i : TypeInfo} {d : TypeDesc} (h1 : P.types[T]? = some i) (h2 : P.underlying T = some d) : (tabOf P).kind T = kdOf d := by
  have h1' : P.info? T = some i := info_eq h1
  simp only [tabOf, kindOf, h1', h2]
  cases d <;> rfl
theorem kindOf_eq {P : Program} {T : Nat} {i : TypeInfo} {d : TypeDesc} (h1 : P.types[T]? = some i) (h2 : P.underlying T = some d) : kindOf P T = kdOf d := kind_eq h1 h2
theorem tagOf_eq {P : Program} {T E : Nat} {i : TypeInfo} (h : kindOf P T = .sl E) (h1 : P.types[E]? = some i) : tagOf P T = i.size := by
  have h1' : P.info? E = some i := info_eq h1
  simp only [tagOf, h, h1']
theorem tagOf_no {P : Program} {T : Nat} {k : Kd} (h : kindOf P T = k) (hk : ∀ E, k ≠ .sl E) : tagOf P T = 0 := by
  subst h
  unfold tagOf
  split
  · rename_i E hE; exact absurd hE (hk E)
  · rfl
theorem size_eq {P : Program} {T : Nat} {i : TypeInfo} (h1 : P.types[T]? = some i) : (tabOf P).size T = i.size := by
  have h1' : P.info? T = some i := info_eq h1
  simp only [tabOf, h1']
theorem bytes_eq {P : Program} {T : Nat} {i : TypeInfo} (h1 : P.types[T]? = some i) : (tabOf P).bytes T = i.bytes := by
  have h1' : P.info? T = some i := info_eq h1
  simp only [tabOf, h1']
theorem off_eq {P : Program} {T f : Nat} {F : Array Field} {fd : Field} (h2 : P.underlying T = some (.struct F)) (h : F[f]? = some fd) : (tabOf P).off T f = fd.offset := by
  simp only [tabOf, h2, h]
theorem zero_eq {P : Program} {T : Nat} {i : TypeInfo} {v : Value} {z : AV} (h1 : P.types[T]? = some i) (hz : i.zero = some v) (hs : v.cells.size = i.size) (hr : zread P 40 T v.cells.toList = some (z, [])) : (tabOf P).zero T = some z := by
  have h1' : P.info? T = some i := info_eq h1
  simp only [tabOf, zeroOf, h1', hz, hs, if_true, hr]
theorem tabOf_ok (P : Program) (h : P.follows .mixedOrders = true) : TabOk P (tabOf P) where
  size T hT := by
    obtain ⟨i, hi⟩ := kindOf_info hT
    exact ⟨i, hi, by simp [tabOf, hi], by simp [tabOf, hi]⟩
  int T k hT := by
    obtain ⟨d, h1, h2⟩ := kindOf_under hT (by simp)
    cases d <;> simp at h2
    subst h2; exact h1
  bool T hT := by
    obtain ⟨d, h1, h2⟩ := kindOf_under hT (by simp)
    cases d <;> simp at h2
    exact h1
  str T hT := by
    obtain ⟨d, h1, h2⟩ := kindOf_under hT (by simp)
    cases d <;> simp at h2
    exact h1
  sl T E hT := by
    obtain ⟨d, h1, h2⟩ := kindOf_under hT (by simp)
    cases d <;> simp at h2
    subst h2; exact h1
  st T fs hT := by
    obtain ⟨d, h1, h2⟩ := kindOf_under hT (by simp)
    cases d <;> simp at h2
    rename_i F
    subst h2
    refine ⟨F, h1, by simp, fun f t hf => ?_⟩
    rw [List.getElem?_map, Array.getElem?_toList] at hf
    cases hq : F[f]? with
    | none => simp [hq] at hf
    | some fd =>
      simp only [hq, Option.map_some, Option.some.injEq] at hf
      exact ⟨fd, rfl, hf, by simp [tabOf, h1, hq]⟩
  ptr T hT := by
    obtain ⟨d, h1, h2⟩ := kindOf_under hT (by simp)
    cases d <;> simp at h2
    exact ⟨_, h1⟩
  zero T z hz := by
    simp only [tabOf, zeroOf] at hz
    split at hz
    · rename_i i hi
      split at hz
      · rename_i v hv
        split at hz
        · rename_i hs
          split at hz
          · rename_i z' hr
            simp only [Option.some.injEq] at hz
            subst hz
            obtain ⟨h1, h2⟩ := zread_ok P 40 T _ _ _ hr
            exact ⟨h1, i, v, hi, hv, by simpa using h2, hs⟩
          · cases hz
        · cases hz
      · cases hz
    · cases hz
  follows := h
end Go.Bv

/-! Sharing: a value handed on, of which the callee may only read. -/
namespace Go.Bv
open Go Go.RowKit
set_option linter.unusedSimpArgs false
set_option linter.unusedVariables false

mutual
def csh : CV → CV
  | .lst _ s A c xs => .lst false s A c (cshs xs)
  | .agg xs => .agg (cshs xs)
  | x => x
def cshs : List CV → List CV
  | [] => []
  | x :: xs => csh x :: cshs xs
end
mutual
/-- The same, owned by nobody. -/
def ash : AV → AV
  | .lst _ s xs => .lst false s (ashs xs)
  | .agg xs => .agg (ashs xs)
  | x => x
def ashs : List AV → List AV
  | [] => []
  | x :: xs => ash x :: ashs xs
end
theorem cshs_len (xs : List CV) : (cshs xs).length = xs.length := by induction xs <;> simp [cshs, *]
theorem cshs_map (xs : List CV) : cshs xs = xs.map csh := by induction xs <;> simp [cshs, *]
theorem ashs_map (xs : List AV) : ashs xs = xs.map ash := by induction xs <;> simp [ashs, *]
mutual
theorem er_sh : ∀ x : CV, er (csh x) = ash (er x)
  | .lst _ _ _ _ xs => by simp only [csh, er, ash, ers_sh xs]
  | .agg xs => by simp only [csh, er, ash, ers_sh xs]
  | .undef _ | .bool _ | .int _ _ | .str _ | .tup _ | .fn _ _ | .ip _ _ | .at _ _ _ | .ref _ _ _ _ _ | .box _ _ _ => by simp [csh, er, ash]
theorem ers_sh : ∀ xs : List CV, ers (cshs xs) = ashs (ers xs)
  | [] => rfl
  | x :: xs => by simp only [cshs, ers, ashs, er_sh x, ers_sh xs]
end
mutual
theorem flat_sh : ∀ x : CV, flat (csh x) = flat x
  | .lst _ _ _ _ xs => by simp only [csh, flat, cshs_len]
  | .agg xs => by simp only [csh, flat, flats_sh xs]
  | .undef _ | .bool _ | .int _ _ | .str _ | .tup _ | .fn _ _ | .ip _ _ | .at _ _ _ | .ref _ _ _ _ _ | .box _ _ _ => by simp [csh]
theorem flats_sh : ∀ xs : List CV, flats (cshs xs) = flats xs
  | [] => rfl
  | x :: xs => by simp only [cshs, flats, flat_sh x, flats_sh xs]
end
mutual
theorem pl_sh : ∀ x : CV, Pl x → Pl (csh x)
  | .lst _ _ _ _ xs, h => by simp only [csh, Pl] at h ⊢; exact plL_sh xs h
  | .agg xs, h => by simp only [csh, Pl] at h ⊢; exact plL_sh xs h
  | .undef _, h | .bool _, h | .int _ _, h | .str _, h | .tup _, h | .fn _ _, h | .ip _ _, h | .at _ _ _, h | .ref _ _ _ _ _, h | .box _ _ _, h => by simpa only [csh] using h
theorem plL_sh : ∀ xs : List CV, PlL xs → PlL (cshs xs)
  | [], _ => by simp [cshs, PlL]
  | x :: xs, h => by simp only [cshs, PlL] at h ⊢; exact ⟨pl_sh x h.1, plL_sh xs h.2⟩
end
theorem agg_sh (x : CV) : (∃ ys, csh x = .agg ys) ↔ (∃ ys, x = .agg ys) := by cases x <;> simp [csh]

section
variable {w : World} {Z Z' : Nat → Prop}
mutual
theorem ok_sh (hZ : ∀ b, Z b → Z' b) : ∀ x : CV, Ok w Z x → Pl x → (∀ b ∈ fp x, Z' b) → Ok w Z' (csh x) ∧ fp (csh x) = []
  | .lst o s A c xs, h, hp, hf => by
    simp only [Ok] at h
    simp only [Pl] at hp
    obtain ⟨⟨h1, h2, h3⟩, h4, h5, h6⟩ := h
    simp only [fp, List.mem_append] at hf
    obtain ⟨k1, k2⟩ := okL_sh hZ xs h6 hp (fun b hb => hf b (.inr hb))
    simp only [csh, Ok, fp, k2, cshs_len, flats_sh]
    refine ⟨⟨⟨h1, ?_, fun e => by simp at e⟩, ?_, fun _ => trivial, k1⟩, by simp⟩
    · rcases h2 with h2 | ⟨a, e1, e2, e3, e4⟩
      · exact .inl h2
      · by_cases h0 : xs.length = 0
        · exact .inl h0
        · refine .inr ⟨a, e1, e2, e3, fun _ => ?_⟩
          cases o
          · exact hZ _ (e4 rfl)
          · refine hf _ (.inl ?_)
            rw [if_neg (by simp; omega), e1]; simp
    · rw [cshs_map]
      intro x hx
      obtain ⟨y, hy, rfl⟩ := List.mem_map.1 hx
      rw [flat_sh]; exact h4 y hy
  | .agg xs, h, hp, hf => by
    simp only [Ok, Pl, fp] at h hp hf
    simpa only [csh, Ok, fp] using okL_sh hZ xs h hp hf
  | .fn f xs, h, hp, hf => by
    simp only [csh]
    refine ⟨h.congr (w' := w) hZ (fun _ _ => rfl) _ (fun _ _ => rfl), ?_⟩
    simp only [Ok] at h
    simpa only [fp] using h.1
  | .ip a x, h, hp, hf => by
    simp only [csh]
    exact ⟨h.congr (w' := w) hZ (fun _ _ => rfl) _ (fun _ _ => rfl), by simp [fp]⟩
  | .undef _, _, _, _ | .bool _, _, _, _ | .int _ _, _, _, _ | .str _, _, _, _ => by simp [csh, Ok, fp]
  | .tup _, _, hp, _ | .at _ _ _, _, hp, _ | .ref _ _ _ _ _, _, hp, _ | .box _ _ _, _, hp, _ => by simp [Pl] at hp
theorem okL_sh (hZ : ∀ b, Z b → Z' b) : ∀ xs : List CV, OkL w Z xs → PlL xs → (∀ b ∈ fps xs, Z' b) → OkL w Z' (cshs xs) ∧ fps (cshs xs) = []
  | [], _, _, _ => by simp [cshs, OkL, fps]
  | x :: xs, h, hp, hf => by
    simp only [OkL, PlL, fps, List.mem_append] at h hp hf
    obtain ⟨a1, a2⟩ := ok_sh hZ x h.1 hp.1 (fun b hb => hf b (.inl hb))
    obtain ⟨b1, b2⟩ := okL_sh hZ xs h.2 hp.2 (fun b hb => hf b (.inr hb))
    simp only [cshs, OkL, fps, a2, b2, List.append_nil]
    exact ⟨⟨a1, b1⟩, trivial⟩
end
end

mutual
/-- What a callee is shown of an operand. -/
def asnap (S : List AV) : AV → Option AV
  | .ref r p lo n => match aget S r p with
    | some (.lst true s xs) => some (.lst false s (((ashs xs).drop lo).take n))
    | _ => none
  | .at r p => match aget S r p with
    | some y => some (.ip (ash y))
    | none => none
  | .agg xs => match asnaps S xs with | some ys => some (.agg ys) | none => none
  | .fn f xs => match asnaps S xs with | some ys => some (.fn f ys) | none => none
  | .undef => none
  | .box _ => none
  | .tup _ => none
  | .ip x => if plA x then some (.ip x) else none
  | x => some x
def asnaps (S : List AV) : List AV → Option (List AV)
  | [] => some []
  | x :: xs => match asnap S x with | some y => (match asnaps S xs with | some ys => some (y :: ys) | none => none) | none => none
end

section
variable {K : Nat → Prop} {w0 : World} {Z : Nat → Prop} {Sc L : List CV} {a : Act} {w : World} {P : Program} {Γ : Tab}
def below (w : World) : Nat → Prop := fun b => b < w.heap.size
theorem Good.below (h : Good K w0 Z Sc L a w) : ∀ b, Z b → Bv.below w b := fun b hb => h.lt b (.inr hb)

/-- Blocks of old, but for what stands beside the frame. -/
def belowL (w : World) (L : List CV) : Nat → Prop := fun b => b < w.heap.size ∧ b ∉ fps L
theorem Good.belowL (h : Good K w0 Z Sc L a w) : ∀ b, Z b → Bv.belowL w L b := fun b hb => ⟨h.lt b (.inr hb), fun hm => h.apart b (by rw [fps_append]; exact List.mem_append_right _ hm) hb⟩
theorem Good.ownL (h : Good K w0 Z Sc L a w) {b : Nat} (hb : b ∈ fps Sc) : Bv.belowL w L b := by
  have hn := h.nodup
  rw [fps_append, List.nodup_append] at hn
  exact ⟨h.lt b (.inl (by rw [fps_append]; exact List.mem_append_left _ hb)), fun hm => hn.2.2 b hb b hm rfl⟩

theorem snap_refL (h : Good K w0 Z Sc L a w) {r : Nat} {p : List Nat} {lo n : Nat} {v : Value} (hr : RefOk Sc (.ref r p lo n v)) {y : AV} (hy : asnap (ers Sc) (.ref r p lo n) = some y) :
    ∃ c', er c' = y ∧ flat c' = [v] ∧ Ok w (belowL w L) c' ∧ fp c' = [] ∧ Pl c' ∧ ¬ (∃ ys, c' = .agg ys) := by
  simp only [RefOk] at hr
  obtain ⟨x, s, A, c, xs, l, h1, h2, h3, h4, h5⟩ := hr
  have hg := er_cget (Sc := Sc) (r := r) (p := p) (l := l) (y := .lst true s A c xs) (by simp [cget, h1, h3])
  simp only [asnap, hg, er] at hy
  simp only [Option.some.injEq] at hy
  have hokx := ((okL_cut h1).1 ((okL_append _ _).1 h.ok).1).2.1
  have hoky : Ok w Z (.lst true s A c xs) := ok_get p _ _ _ l h3 (ok_root hokx).1
  have hply : Pl (.lst true s A c xs) := Pl.get p _ _ _ l h3 h2
  obtain ⟨A', c', rfl, hk', hf'⟩ := sub_ok hoky h4 h5
  have hpl' : Pl (.lst true s A' c' ((xs.drop lo).take n)) := by
    simp only [Pl] at hply ⊢
    rw [plL_iff] at hply ⊢
    exact fun u hu => hply u (List.mem_of_mem_drop (List.mem_of_mem_take hu))
  have hfps : ∀ b ∈ fp (.lst true s A c xs), belowL w L b := by
    intro b hb
    have hnode : b ∈ fp x := by
      have hb2 : b ∈ fp (rootC x).1 := by
        obtain ⟨L1, R1, e1, _⟩ := fp_set p _ _ _ _ h3
        rw [e1]; simp [hb]
      cases x <;> simp_all [rootC, fp]
    exact h.ownL (mem_fps.2 ⟨x, List.mem_of_getElem? h1, hnode⟩)
  obtain ⟨q1, q2⟩ := ok_sh (Z' := belowL w L) h.belowL _ hk' hpl' (fun b hb => hfps b (hf'.sub b hb))
  refine ⟨csh (.lst true s A' c' ((xs.drop lo).take n)), ?_, ?_, q1, q2, pl_sh _ hpl', by simp [csh]⟩
  · rw [er_sh, ← hy]
    simp only [er, ash, ers_eq, ashs_map, List.map_take, List.map_drop]
  · rw [flat_sh]
    simp only [flat]
    congr 2
    simp; omega

theorem snap_atL (h : Good K w0 Z Sc L a w) {r : Nat} {p : List Nat} {ad : Addr} (hr : RefOk Sc (.at r p ad)) {y : AV} (hy : asnap (ers Sc) (.at r p) = some y) :
    ∃ c', er c' = y ∧ flat c' = [.pointer (some ad)] ∧ Ok w (belowL w L) c' ∧ fp c' = [] ∧ Pl c' ∧ ¬ (∃ ys, c' = .agg ys) := by
  obtain ⟨x, z, h1, h2, h3, h4, h5, h6, h7, h8⟩ := h.node hr
  simp only [asnap, h8, Option.some.injEq] at hy
  have hokx := ((okL_cut h1).1 ((okL_append _ _).1 h.ok).1).2.1
  have hroot : ∀ b, b ∈ fp (rootC x).1 → belowL w L b := by
    intro b hb
    have hnode : b ∈ fp x := by cases x <;> simp_all [rootC, fp]
    exact h.ownL (mem_fps.2 ⟨x, List.mem_of_getElem? h1, hnode⟩)
  have hfz : ∀ b ∈ fp z, belowL w L b := by
    intro b hb
    obtain ⟨L1, R1, e1, _⟩ := fp_set p _ _ _ _ h3
    exact hroot b (by rw [e1]; simp [hb])
  have hloc := loc_get p _ _ z ad h3 (ok_root hokx).1 (fun b hb => by
    rcases root_cases h2 with ⟨b', ty, z', rfl, hz⟩ | ⟨hz, hrt, hcs⟩
    · simp only [rootC, Option.some.injEq] at hb ⊢
      subst hb
      simp only [Ok] at hokx
      exact ⟨rfl, _, ty, hokx.1, by simp⟩
    · rw [hrt] at hb; cases hb)
  have hblk : belowL w L ad.block := by
    rcases hloc.2.2.1 with hm | ⟨b, hb, he⟩
    · exact hroot _ hm
    · rw [he]
      rcases root_cases h2 with ⟨b', ty, z', rfl, hz⟩ | ⟨hz, hrt, hcs⟩
      · simp only [rootC, Option.some.injEq] at hb
        subst hb
        exact h.ownL (mem_fps.2 ⟨_, List.mem_of_getElem? h1, by simp [fp]⟩)
      · rw [hrt] at hb; cases hb
  obtain ⟨q1, q2⟩ := ok_sh (Z' := belowL w L) h.belowL _ h4 h5 hfz
  refine ⟨.ip ad (csh z), by rw [← hy, ← er_sh]; simp [er], by simp [flat], ?_, by simp [fp], by simp only [Pl]; exact pl_sh z h5, by simp⟩
  simp only [Ok]
  exact ⟨h6, hblk, by rw [flat_sh]; exact h7, q2, q1⟩

mutual
theorem snap_goodL (h : Good K w0 Z Sc L a w) : ∀ (x : CV), RefOk Sc x → Wf x → Ok w Z x → fp x = [] → ∀ (y : AV), asnap (ers Sc) (er x) = some y →
    ∃ c', er c' = y ∧ flat c' = flat x ∧ Ok w (belowL w L) c' ∧ fp c' = [] ∧ Pl c' ∧ ((∃ ys, c' = .agg ys) ↔ (∃ ys, x = .agg ys))
  | .ref r p lo n v, hr, _, _, _, y, hy => by
    simp only [er] at hy
    obtain ⟨c', h1, h2, h3, h4, h5, h6⟩ := snap_refL h hr hy
    exact ⟨c', h1, by rw [h2]; simp [flat], h3, h4, h5, by simpa using h6⟩
  | .at r p ad, hr, _, _, _, y, hy => by
    simp only [er] at hy
    obtain ⟨c', h1, h2, h3, h4, h5, h6⟩ := snap_atL h hr hy
    exact ⟨c', h1, by rw [h2]; simp [flat], h3, h4, h5, by simpa using h6⟩
  | .agg xs, hr, hw, hk, hf, y, hy => by
    simp only [RefOk, Wf, Ok, fp] at hr hw hk hf
    simp only [er, asnap] at hy
    split at hy
    · rename_i ys hys
      simp only [Option.some.injEq] at hy
      subst hy
      obtain ⟨cs, h1, h2, h3, h4, h5, _⟩ := snaps_goodL h xs hr hw hk hf ys hys
      exact ⟨.agg cs, by simp [er, h1], by simp [flat, h2], by simpa [Ok] using h3, by simpa [fp] using h4, by simpa [Pl] using h5, by simp⟩
    · cases hy
  | .fn f xs, hr, hw, hk, hf, y, hy => by
    simp only [RefOk, Wf, Ok, fp] at hr hw hk hf
    simp only [er, asnap] at hy
    split at hy
    · rename_i ys hys
      simp only [Option.some.injEq] at hy
      subst hy
      obtain ⟨cs, h1, h2, h3, h4, h5, _⟩ := snaps_goodL h xs hr hw hk.2 hf ys hys
      exact ⟨.fn f cs, by simp [er, h1], by simp [flat, h2], by simpa [Ok] using ⟨h4, h3⟩, by simpa [fp] using h4, by simpa [Pl] using h5, by simp⟩
    · cases hy
  | .lst o s A c xs, _, hw, hk, hf, y, hy => by
    simp only [er, asnap, Option.some.injEq] at hy
    exact ⟨.lst o s A c xs, by simp [er, hy], rfl, hk.congr (w' := w) h.belowL (fun _ _ => rfl) _ (fun _ _ => rfl), hf, by simpa only [Wf, Pl] using hw, Iff.rfl⟩
  | .ip b x, _, hw, hk, hf, y, hy => by
    simp only [er, asnap] at hy
    split at hy
    case isFalse => cases hy
    rename_i hpl
    simp only [Option.some.injEq] at hy
    exact ⟨.ip b x, by simp [er, hy], rfl, hk.congr (w' := w) h.belowL (fun _ _ => rfl) _ (fun _ _ => rfl), hf, by simpa only [Pl] using pl_er x hpl, Iff.rfl⟩
  | .bool b, _, _, _, _, y, hy => by
    simp only [er, asnap, Option.some.injEq] at hy
    exact ⟨.bool b, by simp [er, hy], rfl, by simp [Ok], by simp [fp], by simp [Pl], Iff.rfl⟩
  | .int k n, _, _, _, _, y, hy => by
    simp only [er, asnap, Option.some.injEq] at hy
    exact ⟨.int k n, by simp [er, hy], rfl, by simp [Ok], by simp [fp], by simp [Pl], Iff.rfl⟩
  | .str s, _, _, _, _, y, hy => by
    simp only [er, asnap, Option.some.injEq] at hy
    exact ⟨.str s, by simp [er, hy], rfl, by simp [Ok], by simp [fp], by simp [Pl], Iff.rfl⟩
  | .undef _, _, _, _, _, y, hy | .box _ _ _, _, _, _, _, y, hy | .tup _, _, _, _, _, y, hy => by simp [er, asnap] at hy
theorem snaps_goodL (h : Good K w0 Z Sc L a w) : ∀ (xs : List CV), RefOkL Sc xs → WfL xs → OkL w Z xs → fps xs = [] → ∀ (ys : List AV), asnaps (ers Sc) (ers xs) = some ys →
    ∃ cs, ers cs = ys ∧ flats cs = flats xs ∧ OkL w (belowL w L) cs ∧ fps cs = [] ∧ PlL cs ∧ cs.map val1 = xs.map val1
  | [], _, _, _, _, ys, hy => by
    simp only [ers, asnaps, Option.some.injEq] at hy
    subst hy
    exact ⟨[], rfl, rfl, by simp [OkL], rfl, by simp [PlL], rfl⟩
  | x :: xs, hr, hw, hk, hf, ys, hy => by
    simp only [RefOkL, WfL, OkL, fps, List.append_eq_nil_iff] at hr hw hk hf
    simp only [ers, asnaps] at hy
    split at hy
    · rename_i y1 h1
      split at hy
      · rename_i ys1 h2
        simp only [Option.some.injEq] at hy
        subst hy
        obtain ⟨c, a1, a2, a3, a4, a5, a6⟩ := snap_goodL h x hr.1 hw.1 hk.1 hf.1 y1 h1
        obtain ⟨cs, b1, b2, b3, b4, b5, b6⟩ := snaps_goodL h xs hr.2 hw.2 hk.2 hf.2 ys1 h2
        refine ⟨c :: cs, by simp [ers, a1, b1], by simp [flats, a2, b2], by simp [OkL, a3, b3], by simp [fps, a4, b4], by simp [PlL, a5, b5], ?_⟩
        simp only [List.map_cons, b6, List.cons.injEq, and_true]
        by_cases hx : ∃ ys, x = .agg ys
        · obtain ⟨us, rfl⟩ := hx
          obtain ⟨vs, rfl⟩ := a6.2 ⟨us, rfl⟩
          simpa [val1, flat] using a2
        · have hc : ¬ ∃ ys, c = .agg ys := fun e => hx (a6.1 e)
          have e1 := flat_one (x := x) (fun q e => hx ⟨q, e⟩)
          have e2 := flat_one (x := c) (fun q e => hc ⟨q, e⟩)
          rw [e1, e2] at a2
          simpa using a2
      · cases hy
    · cases hy
end
theorem snaps_good (h : Good K w0 Z Sc L a w) (xs : List CV) (hr : RefOkL Sc xs) (hw : WfL xs) (hk : OkL w Z xs) (hf : fps xs = []) (ys : List AV) (hy : asnaps (ers Sc) (ers xs) = some ys) :
    ∃ cs, ers cs = ys ∧ flats cs = flats xs ∧ OkL w (Bv.below w) cs ∧ fps cs = [] ∧ PlL cs ∧ cs.map val1 = xs.map val1 := by
  obtain ⟨cs, h1, h2, h3, h4, h5, h6⟩ := snaps_goodL h xs hr hw hk hf ys hy
  exact ⟨cs, h1, h2, OkL.congr (w := w) (w' := w) (fun b hb => hb.1) (fun _ _ => rfl) cs (fun _ _ => rfl) h3, h4, h5, h6⟩
end
end Go.Bv

/-! Contracts of functions over by-value arguments; calls; a body's contract. -/
namespace Go.Bv
open Go Go.RowKit
set_option linter.unusedSimpArgs false
set_option linter.unusedVariables false

/-- What a call leaves: the result c, of its own memory or of what it was handed; all else stands. -/
structure Res (Z0 : Nat → Prop) (fs : List Nat) (w w' : World) (c : CV) : Prop where
  ok : ∃ Z', (∀ b, Z0 b → Z' b) ∧ (∀ b, Z' b → (Z0 b ∨ w.heap.size ≤ b) ∧ b < w'.heap.size) ∧ Ok w' Z' c ∧ ∀ b ∈ fp c, ¬ Z' b
  nr : NR c
  nodup : (fp c).Nodup
  own : ∀ b ∈ fp c, (b ∈ fs ∨ w.heap.size ≤ b) ∧ b < w'.heap.size
  same : ∀ b, b < w.heap.size → b ∉ fs → w'.heap[b]? = w.heap[b]?
  grew : w.heap.size ≤ w'.heap.size
  os : w'.os = w.os
  tape : w'.tape = w.tape
  output : w'.output = w.output

/-- Function f, of these arguments by value, returns r. -/
def Sound (P : Program) (f : Nat) (args : List AV) (r : AV) : Prop :=
  ∀ (w : World) (Z0 : Nat → Prop) (cs : List CV), ers cs = args → OkL w Z0 cs → (fps cs).Nodup → (∀ b ∈ fps cs, ¬ Z0 b) → (∀ b, (b ∈ fps cs ∨ Z0 b) → b < w.heap.size) → PlL cs → GW P w (fps cs) →
    Calls P f (cs.map val).toArray w (fun e w' => ∃ c, e = .returned (val c) ∧ er c = r ∧ Res Z0 (fps cs) w w' c)

mutual
/-- Leans on no memory but its own. -/
def noSh : AV → Bool
  | .lst true _ xs => noShs xs
  | .lst false _ _ => false
  | .agg xs => noShs xs
  | .tup xs => noShs xs
  | .bool _ | .int _ _ | .str _ | .undef => true
  | _ => false
def noShs : List AV → Bool
  | [] => true
  | x :: xs => noSh x && noShs xs
end
mutual
theorem noSh_ok {w : World} {Z Z' : Nat → Prop} : ∀ x : CV, noSh (er x) = true → Ok w Z x → Ok w Z' x
  | .lst o s A c xs, hn, h => by
    simp only [Ok] at h ⊢
    obtain ⟨⟨h1, h2, h3⟩, h4, h5, h6⟩ := h
    cases o
    · simp [er, noSh] at hn
    · simp only [er, noSh] at hn
      refine ⟨⟨h1, ?_, h3⟩, h4, h5, noShs_ok xs hn h6⟩
      rcases h2 with h2 | ⟨a, e1, e2, e3, _⟩
      · exact .inl h2
      · exact .inr ⟨a, e1, e2, e3, by simp⟩
  | .agg xs, hn, h => by simp only [er, noSh, Ok] at hn h ⊢; exact noShs_ok xs hn h
  | .tup xs, hn, h => by simp only [er, noSh, Ok] at hn h ⊢; exact noShs_ok xs hn h
  | .undef _, _, _ | .bool _, _, _ | .int _ _, _, _ | .str _, _, _ => by simp [Ok]
  | .fn _ _, hn, _ | .ip _ _, hn, _ | .at _ _ _, hn, _ | .ref _ _ _ _ _, hn, _ | .box _ _ _, hn, _ => by simp [er, noSh] at hn
theorem noShs_ok {w : World} {Z Z' : Nat → Prop} : ∀ xs : List CV, noShs (ers xs) = true → OkL w Z xs → OkL w Z' xs
  | [], _, _ => by simp [OkL]
  | x :: xs, hn, h => by
    simp only [ers, noShs, Bool.and_eq_true, OkL] at hn h ⊢
    exact ⟨noSh_ok x hn.1 h.1, noShs_ok xs hn.2 h.2⟩
end

section
variable {K : Nat → Prop} {w0 : World} {Z : Nat → Prop} {Sc L : List CV} {a : Act} {w : World} {P : Program} {Γ : Tab}

/-- A value of fresh memory comes beside the frame. -/
theorem Good.fresh (h : Good K w0 Z Sc [] a w) {Z' : Nat → Prop} {w' : World} {c : CV} (hb : ∀ b, b < w.heap.size → w'.heap[b]? = w.heap[b]?) (hs : w.heap.size ≤ w'.heap.size) (ho : w'.os = w.os) (ht : w'.tape = w.tape) (hu : w'.output = w.output)
    (hZ : ∀ b, Z b → Z' b) (hZ' : ∀ b, Z' b → (Z b ∨ w.heap.size ≤ b) ∧ b < w'.heap.size) (hok : Ok w' Z' c) (hap : ∀ b ∈ fp c, ¬ Z' b) (hnd : (fp c).Nodup) (hfr : ∀ b ∈ fp c, w.heap.size ≤ b ∧ b < w'.heap.size) (hn : NR c) : Good K w0 Z' Sc [c] a w' := by
  have h1 := h.world hb hs ho ht hu
  have hlt : ∀ b ∈ fps Sc, b < w.heap.size := fun b hb => h.lt b (.inl (by simpa [fps_append, fps] using hb))
  have ef : fps (Sc ++ [c]) = fps Sc ++ fp c := by simp [fps_append, fps]
  refine { h1 with ok := ?_, nodup := ?_, apart := fun b hb => ?_, lt := fun b hb => ?_, nr := by simpa using hn, kept := fun b hk => ⟨(h1.kept b hk).1, fun hm => ?_, (h1.kept b hk).2.2⟩ }
  · rw [okL_append]
    have := (okL_append Sc []).1 h1.ok
    exact ⟨this.1.congr (w := w') (w' := w') hZ (fun _ _ => rfl) _ (fun _ _ => rfl), by simpa [OkL] using hok⟩
  · rw [ef, List.nodup_append]
    refine ⟨by simpa [fps_append, fps] using h.nodup, hnd, fun x hx y hy => ?_⟩
    have := hlt x hx; have := (hfr y hy).1; omega
  · rw [ef, List.mem_append] at hb
    rcases hb with hb | hb
    · intro hz
      rcases (hZ' b hz).1 with hz | hz
      · exact h.apart b (by simpa [fps_append, fps] using hb) hz
      · have := hlt b hb; omega
    · exact hap b hb
  · rw [ef, List.mem_append] at hb
    rcases hb with (hb | hb) | hb
    · have := hlt b hb; omega
    · exact (hfr b hb).2
    · exact (hZ' b hb).2
  · rw [ef, List.mem_append] at hm
    rcases hm with hm | hm
    · exact (h1.kept b hk).2.1 (by simpa [fps_append, fps] using hm)
    · have := (hfr b hm).1; have := (h1.kept b hk).1; have := h.grew; omega

theorem run_call {o : Oper} {f : Nat} {args : Array Operand} {ats : Array TypeId} (ho : o.op = .call { callee := .value (.func f), args, argTypes := ats }) (hf : ∀ vs w, (callFunc f vs).run P w = .ok (.enter f vs) w) :
    (execOp a.eval o).run P w = .ok (.enter f (args.map a.eval)) w := by
  unfold execOp
  simp [ho, resolve, Deferred.ofValue, invoke, Act.eval, hf, Sem.run_bind]

theorem call_good {o : Oper} {f : Nat} {args : Array Operand} {ats : Array TypeId} (ho : o.op = .call { callee := .value (.func f), args, argTypes := ats }) (hf : ∀ vs w, (callFunc f vs).run P w = .ok (.enter f vs) w)
    (h : Good K w0 Z Sc [] a w) (hGK : GK P K w0) {Z0 : Nat → Prop} {cs : List CV} {r : AV} (hcs : cs.map val = args.toList.map a.eval) (hok : OkL w Z0 cs) (hfp : fps cs = []) (hZ0 : ∀ b, Z0 b → b < w.heap.size) (hpl : PlL cs)
    (hS : Sound P f (ers cs) r) {N : Act → World → Prop} {Q : Exit → Act → World → Prop}
    (hN : ∀ w' c, er c = r → Res Z0 [] w w' c → N (a.put o.dst (val c)) w') : o.wp P a w N Q := by
  unfold Oper.wp
  rw [run_call ho hf]
  simp only [Oper.upon]
  have := hS w Z0 cs rfl hok (by simp [hfp]) (by simp [hfp]) (fun b hb => by simp only [hfp, List.not_mem_nil, false_or] at hb; exact hZ0 b hb) hpl ((h.gw hGK).mono (by simp [hfp]))
  have ha : args.map a.eval = (cs.map val).toArray := by rw [hcs]; apply Array.ext'; simp
  rw [ha]
  refine Calls.mono this fun e w' ⟨c, he, hc, hr⟩ => ?_
  subst he
  rw [hfp] at hr
  exact hN w' c hc hr

/-- A call whose arguments lean on nothing of the frame. -/
theorem call_AO {o : Oper} {f : Nat} {args : Array Operand} {ats : Array TypeId} (ho : o.op = .call { callee := .value (.func f), args, argTypes := ats }) (hf : ∀ vs w, (callFunc f vs).run P w = .ok (.enter f vs) w)
    {S : List AV} {vs : List AV} {r : AV} (hvs : ards S args.toList = some vs) (hpl : plAs vs = true) (hS : Sound P f vs r) : AO P o S (aput o.dst r S) := ao_of fun K w0 Z0 a w hGK ⟨Z, Sc, z1, z2, hSc, hG⟩ Q => by
  subst hSc
  obtain ⟨cs, h1, h2, h3⟩ := ards_sound hG _ _ hvs
  have hfp : fps cs = [] := by
    clear hvs h1 h2
    induction cs with
    | nil => rfl
    | cons c cs ih => simp [fps, (h3 c (by simp)).1.fp, ih (fun c hc => h3 c (by simp [hc]))]
  refine call_good ho hf hG hGK (Z0 := Z) (cs := cs) (r := r) h2 ((okL_iff _).2 fun c hc => (h3 c hc).1.ok) hfp (fun b hb => hG.lt b (.inr hb)) (plL_er cs (by rw [h1]; exact hpl)) (by rw [h1]; exact hS) fun w' c hc hr => ?_
  obtain ⟨Z', k1, k2, k3, k4⟩ := hr.ok
  have hG2 := hG.fresh (fun b hb => hr.same b hb (by simp)) hr.grew hr.os hr.tape hr.output k1 k2 k3 k4 hr.nodup (fun b hb => ⟨by simpa using (hr.own b hb).1, (hr.own b hb).2⟩) hr.nr
  refine ⟨Z', cput o.dst c Sc, fun b hb => k1 b (z1 b hb), fun b hb => ?_, by rw [er_cput, hc], hG2.put o.dst⟩
  rcases (k2 b hb).1 with h | h
  · exact z2 b h
  · exact .inr (Nat.le_trans hG.grew h)
/-- A call that is shown what the frame holds; its result leans on nothing. -/
theorem call_snap {o : Oper} {f : Nat} {args : Array Operand} {ats : Array TypeId} (ho : o.op = .call { callee := .value (.func f), args, argTypes := ats }) (hf : ∀ vs w, (callFunc f vs).run P w = .ok (.enter f vs) w)
    {S : List AV} {vs ps : List AV} {r : AV} (hvs : ards S args.toList = some vs) (hps : asnaps S vs = some ps) (hS : Sound P f ps r) (hn : noSh r = true) : AO P o S (aput o.dst r S) := ao_of fun K w0 Z0 a w hGK ⟨Z, Sc, z1, z2, hSc, hG⟩ Q => by
  subst hSc
  obtain ⟨cs, h1, h2, h3⟩ := ards_sound hG _ _ hvs
  have hfp : fps cs = [] := by
    clear hvs h1 h2
    induction cs with
    | nil => rfl
    | cons c cs ih => simp [fps, (h3 c (by simp)).1.fp, ih (fun c hc => h3 c (by simp [hc]))]
  obtain ⟨ds, d1, d2, d3, d4, d5, d6⟩ := snaps_good hG cs ((refOkL_iff _).2 fun c hc => (h3 c hc).1.refOk) ((wfL_iff _).2 fun c hc => (h3 c hc).1.wf) ((okL_iff _).2 fun c hc => (h3 c hc).1.ok) hfp ps (by rw [h1]; exact hps)
  have hds : ds.map val = args.toList.map a.eval := by
    rw [← h2]
    have e1 : ds.map val = ds.map val1 := List.map_congr_left fun c hc => val_of_val1 ((plL_iff _).1 d5 c hc).not_tup
    have e2 : cs.map val = cs.map val1 := List.map_congr_left fun c hc => val_of_val1 (h3 c hc).2
    rw [e1, e2, d6]
  refine call_good ho hf hG hGK (Z0 := Bv.below w) (cs := ds) (r := r) hds d3 d4 (fun b hb => hb) d5 (by rw [d1]; exact hS) fun w' c hc hr => ?_
  obtain ⟨Z', k1, k2, k3, k4⟩ := hr.ok
  have hok : Ok w' Z c := noSh_ok c (by rw [hc]; exact hn) k3
  have hfr : ∀ b ∈ fp c, w.heap.size ≤ b ∧ b < w'.heap.size := fun b hb => ⟨by simpa using (hr.own b hb).1, (hr.own b hb).2⟩
  have hG2 := hG.fresh (fun b hb => hr.same b hb (by simp)) hr.grew hr.os hr.tape hr.output (Z' := Z) (fun b hb => hb) (fun b hb => ⟨.inl hb, Nat.lt_of_lt_of_le (hG.lt b (.inr hb)) hr.grew⟩) hok (fun b hb hz => by have := hG.lt b (.inr hz); have := (hfr b hb).1; omega) hr.nodup hfr hr.nr
  exact ⟨Z, cput o.dst c Sc, z1, z2, by rw [er_cput, hc], hG2.put o.dst⟩

/-! ### what a body returns -/
def ares1 (Γ : Tab) (S : List AV) : ResultVar → Option (AV × List AV)
  | .tmp t => match ard S (.tmp t) with | some v => atake S v | none => none
  | .cell t T => match ard S (.tmp t) with
    | some (.at r p) => (match aget S r p with | some y => if fitsA Γ T y then atake S (aview r p y) else none | none => none)
    | _ => none
def aresL (Γ : Tab) : List ResultVar → List AV → Option (List AV × List AV)
  | [], S => some ([], S)
  | x :: xs, S => match ares1 Γ S x with
    | some (v, S1) => (match aresL Γ xs S1 with | some (vs, S2) => some (v :: vs, S2) | none => none)
    | none => none
def ares (Γ : Tab) (rs : List ResultVar) (S : List AV) : Option AV :=
  match aresL Γ rs S with
  | some ([v], _) => some v
  | some (vs, _) => some (.tup vs)
  | none => none
def resRun (a : Act) : ResultVar → Sem Value
  | .tmp t => pure (a.tmps.getD t undef)
  | .cell t T => do loadVar T (← asAddr (a.tmps.getD t undef))

theorem taken {c : CV} (h : Good K w0 Z Sc L a w) (hrd : Rd w Z Sc c) (hnt : ∀ xs, c ≠ .tup xs) {v' : AV} {S' : List AV} (ht : atake (ers Sc) (er c) = some (v', S')) :
    ∃ y Sc', er y = v' ∧ ers Sc' = S' ∧ Good K w0 Z Sc' (y :: L) a w ∧ Pl y ∧ val1 y = val c := by
  obtain ⟨y, Sc', e1, e2, hG, hfl, hpl, hag, _⟩ := take_good c Sc L h hrd.refOk hrd.wf hrd.ok hrd.fp v' S' ht
  exact ⟨y, Sc', e1, e2, hG, hpl, by rw [← val_of_val1 hpl.not_tup]; exact val_same hfl hpl hag hnt⟩
theorem ares1_good (hT : TabOk P Γ) (h : Good K w0 Z Sc L a w) {x : ResultVar} {v' : AV} {S' : List AV} (hx : ares1 Γ (ers Sc) x = some (v', S')) :
    ∃ y Sc', er y = v' ∧ ers Sc' = S' ∧ Good K w0 Z Sc' (y :: L) a w ∧ Pl y ∧ (resRun a x).run P w = .ok (val1 y) w := by
  cases x with
  | tmp t =>
    simp only [ares1] at hx
    cases hv : ard (ers Sc) (.tmp t) with
    | none => simp [hv] at hx
    | some v =>
      simp only [hv] at hx
      obtain ⟨c, rfl, hval, hrd, hnt⟩ := h.rd hv
      obtain ⟨y, Sc', e1, e2, hG, hpl, e3⟩ := taken h hrd hnt hx
      exact ⟨y, Sc', e1, e2, hG, hpl, by rw [e3, hval]; rfl⟩
  | cell t T =>
    simp only [ares1] at hx
    cases hv : ard (ers Sc) (.tmp t) with
    | none => simp [hv] at hx
    | some v =>
      simp only [hv] at hx
      obtain ⟨c, hc, hval, hrd, hnt⟩ := h.rd hv
      cases v <;> simp only at hx <;> try (cases hx; done)
      rename_i r p
      obtain ⟨ad, rfl⟩ := er_at hc
      obtain ⟨x0, y, h1, h2, h3, h4, h5, h6, h7, h8⟩ := h.node hrd.refOk
      simp only [h8] at hx
      split at hx
      case isFalse => cases hx
      rename_i hf
      have hno := view_noOwn r y p h5
      have hk := view_ok (w := w) (Z := Z) r y p h4
      have hnt' : ∀ xs, cview r p y ≠ .tup xs := view_not_tup (fits_not_tup hf)
      rw [← er_view] at hx
      obtain ⟨u, Sc', e1, e2, hG, hpl, e3⟩ := taken h (c := cview r p y) ⟨view_refOk h1 h2 y p _ h3 h5 h4, view_wf r y p h5, hk, hno.fp _ hk, .inr hno⟩ hnt' hx
      refine ⟨u, Sc', e1, e2, hG, hpl, ?_⟩
      rw [e3, val_view _ _ _ (fits_not_tup hf)]
      have hev : a.tmps.getD t undef = .pointer (some ad) := by
        have : a.eval (.tmp t) = a.tmps.getD t undef := rfl
        rw [← this, ← hval]; rfl
      simp [resRun, hev, asAddr, run_load_fit hT hf h7]
theorem aresL_good (hT : TabOk P Γ) : ∀ (xs : List ResultVar) {Sc L : List CV}, Good K w0 Z Sc L a w → ∀ {vs : List AV} {S' : List AV}, aresL Γ xs (ers Sc) = some (vs, S') →
    ∃ ys Sc', ers ys = vs ∧ ers Sc' = S' ∧ Good K w0 Z Sc' (ys ++ L) a w ∧ PlL ys ∧ (xs.mapM (resRun a)).run P w = .ok (ys.map val1) w
  | [], Sc, L, h, vs, S', hx => by
    simp only [aresL, Option.some.injEq, Prod.mk.injEq] at hx
    obtain ⟨rfl, rfl⟩ := hx
    exact ⟨[], Sc, rfl, rfl, h, by simp [PlL], by simp⟩
  | x :: xs, Sc, L, h, vs, S', hx => by
    simp only [aresL] at hx
    split at hx
    · rename_i v S1 h1
      split at hx
      · rename_i vs2 S2 h2
        simp only [Option.some.injEq, Prod.mk.injEq] at hx
        obtain ⟨rfl, rfl⟩ := hx
        obtain ⟨y, Sc1, e1, e2, hG, hpl, hrun⟩ := ares1_good hT h h1
        subst e2
        obtain ⟨ys, Sc2, f1, f2, hG2, hpl2, hrun2⟩ := aresL_good hT xs hG h2
        refine ⟨y :: ys, Sc2, by simp [ers, e1, f1], f2, ?_, by simp [PlL, hpl, hpl2], ?_⟩
        · refine hG2.beside ?_ ?_ ?_
          · have := (okL_append _ _).1 hG2.ok
            have := (okL_append ys (y :: L)).1 this.2
            simp only [OkL] at this
            simp only [List.cons_append, OkL, okL_append]
            exact ⟨this.2.1, this.1, this.2.2⟩
          · simp only [List.cons_append, fps, fps_append]
            refine Fits.of_perm ?_
            rw [← List.append_assoc, ← List.append_assoc]
            exact List.Perm.append_right _ List.perm_append_comm
          · intro z hz
            refine hG2.nr z ?_
            simp only [List.cons_append, List.mem_cons, List.mem_append] at hz ⊢
            rcases hz with hz | hz | hz
            · exact .inr (.inl hz)
            · exact .inl hz
            · exact .inr (.inr hz)
        · simp [Sem.run_bind, hrun, hrun2]
      · cases hx
    · cases hx

def resVal : List Value → Value
  | [v] => v
  | vs => .tuple vs.toArray
theorem run_results {fn : Func} {vs : List Value} (h : (fn.results.toList.mapM (resRun a)).run P w = .ok vs w) : (results fn a.tmps).run P w = .ok (resVal vs) w := by
  have hm : fn.results.mapM (resRun a) = List.toArray <$> fn.results.toList.mapM (resRun a) := by
    rw [← List.mapM_toArray]
  have hr : results fn a.tmps = (do let vs ← fn.results.mapM (resRun a); pure (if h : vs.size = 1 then vs[0] else .tuple vs)) := by
    unfold results
    congr 1
  rw [hr, hm]
  simp only [Sem.run_bind, Sem.run_map, h, Result.andThen_ok, Sem.run_pure]
  match vs with
  | [] => rfl
  | [v] => rfl
  | v :: u :: vs => simp [resVal]
end
end Go.Bv

/-! A function's contract out of its body. -/
namespace Go.Bv
open Go Go.RowKit
set_option linter.unusedSimpArgs false
set_option linter.unusedVariables false
section
variable {P : Program} {Γ : Tab}

theorem ers_undef (n : Nat) : ers (List.replicate n (.undef undef)) = List.replicate n .undef := by simp [ers_eq, er]
theorem fps_undef (n : Nat) : fps (List.replicate n (.undef undef)) = [] := fps_rep n _ (by simp [fp])

def frame (args : List AV) (n : Nat) : List AV := args ++ List.replicate (n - args.length) .undef
/-- Where a body may end: with these results. -/
def endsA (Γ : Tab) (rs : List ResultVar) (r : AV) : Exit → List AV → Prop
  | .ret, S | .normal, S => ares Γ rs S = some r
  | _, _ => False

theorem sound_body (hT : TabOk P Γ) {f : Nat} {fn : Func} {c : Code} (hf : P.funcs[f]? = some fn) (hb : fn.body = some c) {args : List AV} {r : AV}
    (hw : AW P c (frame args fn.ntmps) (endsA Γ fn.results.toList r)) : Sound P f args r := by
  intro w Z0 cs hcs hok hnd hap hlt hpl hgw
  subst hcs
  have hl : (ers cs).length = cs.length := by simp [ers_eq]
  refine calls_of_wp hf hb ?_
  have hA : At (P := P) ⟨fun b => b < w.heap.size ∧ b ∉ fps cs, fun _ => none⟩ w Z0 (frame (ers cs) fn.ntmps) { tmps := (cs.map val).toArray ++ Array.replicate (fn.ntmps - (cs.map val).toArray.size) undef, defers := [] } w := by
    refine ⟨⟨Z0, cs ++ List.replicate (fn.ntmps - cs.length) (.undef undef), fun b h => h, fun b h => .inl h, by rw [ers_append, ers_undef, frame, hl], ?_⟩, ⟨(fun _ _ h => by cases h), hgw⟩⟩
    have ef : fps ((cs ++ List.replicate (fn.ntmps - cs.length) (.undef undef)) ++ []) = fps cs := by simp [fps_append, fps_undef]
    refine { defers := rfl, size := by simp, tmps := fun t ht => ?_, ok := ?_, nodup := by rw [ef]; exact hnd, apart := by rw [ef]; exact hap, lt := fun b hb' => ?_, refs := fun x hx => ?_, wf := fun x hx => ?_, sorted := fun x hx => ?_, nr := by simp,
             kept := fun b hk => ⟨hk.1, by rw [ef]; exact hk.2, rfl⟩, os := rfl, tape := rfl, output := rfl, grew := Nat.le_refl _ }
    · simp only [Array.getElem?_append, List.size_toArray, List.length_map, List.getElem?_append]
      split
      · simp
      · rename_i hge
        have ht' : t < cs.length + (fn.ntmps - cs.length) := by simpa using ht
        simp only [List.getElem?_replicate, Array.getElem?_replicate]
        have : t - cs.length < fn.ntmps - cs.length := by omega
        simp [this, val, val1, flat]
    · rw [List.append_nil, okL_append]
      refine ⟨hok, (okL_iff _).2 fun x hx => ?_⟩
      rw [List.eq_of_mem_replicate hx]; simp [Ok]
    · rw [ef] at hb'; exact hlt b hb'
    · rcases List.mem_append.1 hx with hx | hx
      · exact Pl.refOk _ ((plL_iff _).1 hpl x hx)
      · rw [List.eq_of_mem_replicate hx]; simp [RefOk]
    · rcases List.mem_append.1 hx with hx | hx
      · exact Pl.wf _ ((plL_iff _).1 hpl x hx)
      · rw [List.eq_of_mem_replicate hx]; simp [Wf]
    · rcases List.mem_append.1 hx with hx | hx
      · exact .inl ((plL_iff _).1 hpl x hx).nr
      · rw [List.eq_of_mem_replicate hx]; exact .inr (by simp [NoOwn])
  have hfin : ∀ S' a' w', At (P := P) ⟨fun b => b < w.heap.size ∧ b ∉ fps cs, fun _ => none⟩ w Z0 S' a' w' → ares Γ fn.results.toList S' = some r →
      a'.defers = [] ∧ ∃ v, (results fn a'.tmps).run P w' = .ok v w' ∧ ∃ c, Ending.returned v = .returned (val c) ∧ er c = r ∧ Res Z0 (fps cs) w w' c := by
    intro S' a' w' hA' hr
    obtain ⟨⟨Z, Sc, z1, z2, rfl, hG⟩, _⟩ := hA'
    refine ⟨hG.defers, ?_⟩
    unfold ares at hr
    cases hL : aresL Γ fn.results.toList (ers Sc) with
    | none => simp [hL] at hr
    | some q =>
      obtain ⟨vs, S2⟩ := q
      obtain ⟨ys, Sc', e1, e2, hG2, hpl2, hrun⟩ := aresL_good hT _ hG hL
      have hrr := run_results hrun
      have hfps : ∀ b ∈ fps ys, b ∈ fps (Sc' ++ (ys ++ [])) := fun b hb => by simp [fps_append, hb]
      have hndy : (fps ys).Nodup := by
        have := hG2.nodup
        simp only [fps_append, List.append_nil] at this
        exact (List.nodup_append.1 this).2.1
      have hokL : OkL w' Z ys := by
        have := (okL_append _ _).1 ((okL_append _ _).1 hG2.ok).2
        exact this.1
      have hown : ∀ b ∈ fps ys, (b ∈ fps cs ∨ w.heap.size ≤ b) ∧ b < w'.heap.size := fun b hb => by
        refine ⟨?_, hG2.lt b (.inl (hfps b hb))⟩
        by_cases hk : b < w.heap.size
        · by_cases hm : b ∈ fps cs
          · exact .inl hm
          · exact absurd (hfps b hb) (hG2.kept b ⟨hk, hm⟩).2.1
        · exact .inr (by omega)
      have hz2 : ∀ b, Z b → (Z0 b ∨ w.heap.size ≤ b) ∧ b < w'.heap.size := fun b hb => ⟨z2 b hb, hG2.lt b (.inr hb)⟩
      have hsame : ∀ b, b < w.heap.size → b ∉ fps cs → w'.heap[b]? = w.heap[b]? := fun b h1 h2 => (hG2.kept b ⟨h1, h2⟩).2.2
      have hapy : ∀ b ∈ fps ys, ¬ Z b := fun b hb => hG2.apart b (hfps b hb)
      rw [hL] at hr
      by_cases h1 : ∃ y, ys = [y]
      · obtain ⟨y, rfl⟩ := h1
        have hv : vs = [er y] := by rw [← e1]; simp [ers]
        subst hv
        simp only [Option.some.injEq] at hr
        have hply : Pl y := by simpa [PlL] using hpl2
        refine ⟨_, hrr, y, ?_, hr, ?_⟩
        · simp [resVal, val_of_val1 hply.not_tup]
        · simp only [fps, List.append_nil] at hndy hown hapy
          exact ⟨⟨Z, z1, hz2, by simpa [OkL] using hokL, hapy⟩, hply.nr, hndy, hown, hsame, hG2.grew, hG2.os, hG2.tape, hG2.output⟩
      · have hv : r = .tup vs := by
          match vs, ys, e1, hr with
          | [], [], _, hr => simp at hr; exact hr.symm
          | [_], [y], _, _ => exact absurd ⟨y, rfl⟩ h1
          | _ :: _ :: _, _ :: _ :: _, _, hr => simp at hr; exact hr.symm
        have hrv : resVal (ys.map val1) = Value.tuple (ys.map val1).toArray := by
          match ys with
          | [] => rfl
          | [y] => exact absurd ⟨y, rfl⟩ h1
          | _ :: _ :: _ => rfl
        refine ⟨_, hrr, .tup ys, ?_, by rw [hv, ← e1]; simp [er], ?_⟩
        · rw [hrv]; simp [val]
        · refine ⟨⟨Z, z1, hz2, by simpa [Ok] using hokL, by simpa [fp] using hapy⟩, ?_, by simpa [fp] using hndy, by simpa [fp] using hown, hsame, hG2.grew, hG2.os, hG2.tape, hG2.output⟩
          simp only [NR]
          intro u hu
          exact .inr ((plL_iff _).1 hpl2 u hu)
  refine wp_mono (hw _ _ _ _ _ (Kp.frees_none _ _) hA) fun e a' w' ⟨S', q, hS'⟩ => ?_
  cases e with
  | normal => exact hfin S' a' w' hS' q
  | ret => exact hfin S' a' w' hS' q
  | _ => exact q.elim
end
end Go.Bv

/-! Stepping through regions, guards and all; each operation's step. -/
namespace Go.Bv
open Go Go.RowKit
set_option linter.unusedSimpArgs false
set_option linter.unusedVariables false

/-- Is the operation to be run? -/
def gchk (ops : Array Oper) (S : List AV) (o : Oper) : Option Bool :=
  match o.guard with
  | none => some true
  | some (g, b) => match ops[g]? with
    | some q => (match q.dst with
      | some d => (match S[d]? with
        | some (.bool t) => some (match b with | true => t | false => !t)
        | some (.tup _) => some false
        | _ => none)
      | none => none)
    | none => none

/-- The operations l of ops, in this order; N: what they come to. st: of those that leave memory alone. -/
def AL (P : Program) (st : Bool) (ops : Array Oper) (l : List Oper) (S : List AV) (N : List AV → Prop) : Prop :=
  match st with
  | true => ∀ (K : Kp P) w0 Z0 a w, (∀ o ∈ l, K.free o.dst) → At K w0 Z0 S a w → ∀ (M : Act → Prop), (∀ S' a', N S' → At K w0 Z0 S' a' w → M a') → wpStill P ops w M l a
  | false => AR P ops l S N

section
variable {P : Program} {Γ : Tab} {S : List AV} {ops : Array Oper} {l : List Oper} {o : Oper} {N : List AV → Prop} {st : Bool}

theorem gchk_wanted {K : Kp P} {w0 : World} {Z0 : Nat → Prop} {a : Act} {w : World} (hA : At K w0 Z0 S a w) {t : Bool} (h : gchk ops S o = some t) : Region.wanted o (yielded ops a.tmps) = t := by
  unfold gchk at h
  unfold Region.wanted
  cases hg : o.guard with
  | none => simp only [hg, Option.some.injEq] at h; simp [h]
  | some gb =>
    obtain ⟨g, b⟩ := gb
    simp only [hg] at h ⊢
    cases hq : ops[g]? with
    | none => simp [hq] at h
    | some q =>
      simp only [hq] at h
      cases hd : q.dst with
      | none => simp [hd] at h
      | some d =>
        simp only [hd] at h
        obtain ⟨⟨Z, Sc, _, _, rfl, hG⟩, _⟩ := hA
        rw [ers_eq, List.getElem?_map] at h
        cases hx : Sc[d]? with
        | none => simp [hx] at h
        | some x =>
          have hl : d < a.tmps.size := by rw [hG.size]; exact (List.getElem?_eq_some_iff.1 hx).1
          have ht := hG.tmps d hl
          rw [hx, Option.map_some] at ht
          simp only [yielded, hq, Option.bind_some, hd, ht]
          cases x <;> simp only [hx, Option.map_some, er] at h <;> try (cases h; done)
          · rename_i u
            simp only [Option.some.injEq] at h
            subst h
            cases b <;> cases u <;> simp [val, val1, flat]
          · simp only [Option.some.injEq] at h
            subst h
            simp [val]

theorem At.skip {K : Kp P} {w0 : World} {Z0 : Nat → Prop} {a : Act} {w : World} (hA : At K w0 Z0 S a w) (dst : Option Nat) (hf : K.free dst) : At K w0 Z0 (aput dst (.tup []) S) (a.put dst undef) w := by
  obtain ⟨⟨Z, Sc, z1, z2, rfl, hG⟩, hfx⟩ := hA
  have h := (hG.add (c := .tup []) (by simp [Ok, OkL]) (by simp [fp, fps]) (by simp [NR])).put dst
  refine ⟨⟨Z, _, z1, z2, by rw [er_cput]; simp [er, ers], h⟩, fun t v ht => ?_, hfx.2⟩
  rw [put_other (fun e => by rw [e] at hf; simp only [Kp.free] at hf; rw [hf] at ht; cases ht)]
  exact hfx.1 t v ht

theorem gchk_none (h : o.guard = none) : gchk ops S o = some true := by simp [gchk, h]
theorem al_nil (h : N S) : AL P st ops [] S N := by
  cases st
  · exact ar_nil h
  · exact fun K w0 Z0 a w _ hA M hM => hM S a h hA
theorem al_skip {S' : List AV} (hg : gchk ops S o = some false) (hS : aput o.dst (.tup []) S = S') (h : AL P st ops l S' N) : AL P st ops (o :: l) S N := by
  subst hS
  cases st
  · intro K w0 Z0 a w hF hA Q hQ k hk
    have h0 : ops[k]? = some o := by have := hk 0; simpa using this.symm
    simp only [List.length_cons, List.range'_succ, wpOps, h0, gchk_wanted hA hg, Bool.false_eq_true, if_false]
    refine h K w0 Z0 _ w (fun q hq => hF q (by simp [hq])) (hA.skip o.dst (hF o (by simp))) Q hQ (k + 1) fun j => ?_
    have := hk (j + 1)
    rw [List.getElem?_cons_succ] at this
    rw [this]; congr 1; omega
  · intro K w0 Z0 a w hF hA M hM
    simp only [wpStill, gchk_wanted hA hg, Bool.false_eq_true, if_false]
    exact h K w0 Z0 _ w (fun q hq => hF q (by simp [hq])) (hA.skip o.dst (hF o (by simp))) M hM
theorem al_op {S' : List AV} (hg : gchk ops S o = some true) (ho : AO P o S S') (h : AL P false ops l S' N) : AL P false ops (o :: l) S N := fun K w0 Z0 a w hF hA Q hQ k hk => by
  have h0 : ops[k]? = some o := by have := hk 0; simpa using this.symm
  simp only [List.length_cons, List.range'_succ, wpOps, h0, gchk_wanted hA hg, if_true]
  refine .inl (Oper.wp_mono (fun a' w' hA' => h K w0 Z0 a' w' (fun q hq => hF q (by simp [hq])) hA' Q hQ (k + 1) fun j => ?_) (ho K w0 Z0 a w (hF o (by simp)) hA Q))
  have := hk (j + 1)
  rw [List.getElem?_cons_succ] at this
  rw [this]; congr 1; omega
/-- A quiet operation. -/
theorem al_q (hT : TabOk P Γ) {v : AV} {S' : List AV} (hg : gchk ops S o = some true) (hv : qv Γ S o = some v) (hS : aput o.dst v S = S') (h : AL P st ops l S' N) : AL P st ops (o :: l) S N := by
  subst hS
  cases st
  · exact al_op hg (aq_AO hT hv) h
  · intro K w0 Z0 a w hF hA M hM
    obtain ⟨u, hr, hA'⟩ := qv_step hT hv (hF o (by simp)) hA
    simp only [wpStill, gchk_wanted hA hg, if_true, Oper.still, hr, Oper.stillUpon]
    exact ⟨trivial, h K w0 Z0 _ w (fun q hq => hF q (by simp [hq])) hA' M hM⟩
/-- A guard that is not known. -/
theorem al_case {t : Bool} {S' : List AV} (hg : gchk ops S o = some t) (hS : aput o.dst (.tup []) S = S') (h1 : t = true → AL P st ops (o :: l) S N) (h2 : t = false → AL P st ops l S' N) : AL P st ops (o :: l) S N := by
  cases t
  · exact al_skip hg hS (h2 rfl)
  · exact h1 rfl
/-- What a guard's operation has yielded. -/
def graw (ops : Array Oper) (S : List AV) (g : Nat) : Option Bool :=
  match ops[g]? with
  | some q => (match q.dst with
    | some d => (match S[d]? with
      | some (.bool t) => some t
      | _ => none)
    | none => none)
  | none => none
theorem graw_gchk {g : Nat} {b t : Bool} (hb : o.guard = some (g, b)) (h : graw ops S g = some t) : gchk ops S o = some (bif b then t else !t) := by
  unfold graw at h
  unfold gchk
  simp only [hb]
  cases hq : ops[g]? with
  | none => simp [hq] at h
  | some q =>
    simp only [hq] at h ⊢
    cases hd : q.dst with
    | none => simp [hd] at h
    | some d =>
      simp only [hd] at h ⊢
      split at h
      · rename_i u hu
        simp only [Option.some.injEq] at h
        subst h
        cases b <;> simp [hu]
      · cases h
theorem al_caseT {g : Nat} {t : Bool} {S' : List AV} (hb : o.guard = some (g, true)) (hg : graw ops S g = some t) (hS : aput o.dst (.tup []) S = S') (h1 : t = true → AL P st ops (o :: l) S N) (h2 : t = false → AL P st ops l S' N) : AL P st ops (o :: l) S N :=
  al_case (graw_gchk hb hg) hS h1 h2
theorem al_caseF {g : Nat} {t : Bool} {S' : List AV} (hb : o.guard = some (g, false)) (hg : graw ops S g = some t) (hS : aput o.dst (.tup []) S = S') (h1 : t = false → AL P st ops (o :: l) S N) (h2 : t = true → AL P st ops l S' N) : AL P st ops (o :: l) S N :=
  al_case (graw_gchk hb hg) hS (fun h => h1 (by simpa using h)) (fun h => h2 (by simpa using h))
theorem aw_reg {id : Nat} {Q : Exit → List AV → Prop} (h : AL P false l.toArray l S (Q .normal)) : AW P (.region id l.toArray false) S Q :=
  aw_region h fun _ h => h
theorem aw_any (hT : TabOk P Γ) {id : Nat} {Q : Exit → List AV → Prop} (hB : Region.lexB .any l.toArray = true) (h : AL P true l.toArray l S (Q .normal)) : AW P (.region id l.toArray true) S Q := fun K w0 Z0 a w hF hA =>
  wp_region_still_lit hT.follows hB (h K w0 Z0 a _ (by simpa [Kp.frees] using hF) hA.drawn _ fun S' a' hN hS => ⟨S', hN, hS⟩)

theorem thenA_n {M : List AV → Prop} {Q : Exit → List AV → Prop} (h : M S) : thenA M Q .normal S := h
theorem thenA_r {M : List AV → Prop} {Q : Exit → List AV → Prop} (h : Q .ret S) : thenA M Q .ret S := h
theorem thenA_x {M : List AV → Prop} {Q : Exit → List AV → Prop} {i : Nat} (h : Q (.exit i) S) : thenA M Q (.exit i) S := h
theorem blockA_n {i : Nat} {Q : Exit → List AV → Prop} (h : Q .normal S) : blockA i Q .normal S := h
theorem blockA_r {i : Nat} {Q : Exit → List AV → Prop} (h : Q .ret S) : blockA i Q .ret S := h
theorem blockA_e {i : Nat} {Q : Exit → List AV → Prop} (h : Q .normal S) : blockA i Q (.exit i) S := by simpa [blockA] using h
theorem blockA_x {i j : Nat} {Q : Exit → List AV → Prop} (hne : j ≠ i) (h : Q (.exit j) S) : blockA i Q (.exit j) S := by simpa [blockA, hne] using h
theorem ends_r {rs : List ResultVar} {r : AV} (h : ares Γ rs S = some r) : endsA Γ rs r .ret S := h
theorem ends_n {rs : List ResultVar} {r : AV} (h : ares Γ rs S = some r) : endsA Γ rs r .normal S := h

/-! ### the operations that turn the frame or make memory -/
theorem es_AO {S' : List AV} (h : ∀ K w0 Z Sc a w, ers Sc = S → Good K w0 Z Sc [] a w → ES P K w0 Z [] a w o S') : AO P o S S' := ao_of fun K w0 Z0 a w hGK ⟨Z, Sc, z1, z2, hSc, hG⟩ Q =>
  Oper.wp_mono (fun a' w' ⟨Sc', e, hG'⟩ => ⟨Z, Sc', z1, z2, e, hG'⟩) (h K w0 Z Sc a w hSc hG Q)
theorem ao_assign {x : Operand} (ho : o.op = .assign x) {v : AV} (hx : ard S x = some v) (hr : arefs v = []) : AO P o S (aput o.dst v S) :=
  es_AO fun K w0 Z Sc a w e hG => by subst e; exact (assign_sound hG ho hx).1 hr
theorem ao_assign_ref {x : Operand} (ho : o.op = .assign x) {v : AV} (hx : ard S x = some v) : AO P o S (aput o.dst v S) :=
  es_AO fun K w0 Z Sc a w e hG => by
    subst e
    obtain ⟨c, rfl, hval, hrd, hnt⟩ := hG.rd hx
    have hrun : (execOp a.eval o).run P w = .ok (.value (val c)) w := by unfold execOp; simp [ho, hval]
    exact es_value hrun (er_cput _ _ _) (hG.putRd o.dst hrd)
theorem ao_assign_take {x : Operand} (ho : o.op = .assign x) {v v' : AV} {S' : List AV} (hx : ard S x = some v) (ht : atake S v = some (v', S')) : AO P o S (aput o.dst v' S') :=
  es_AO fun K w0 Z Sc a w e hG => by subst e; exact (assign_sound hG ho hx).2 v' S' ht
theorem ao_box {T : Nat} {x : Operand} (ho : o.op = .box T x) {v v' : AV} {S' : List AV} (hx : ard S x = some v) (ht : atake S v = some (v', S')) : AO P o S (aput o.dst (.box v') S') :=
  es_AO fun K w0 Z Sc a w e hG => by subst e; exact box_sound hG ho hx ht
theorem ao_alloc (hT : TabOk P Γ) {T : Nat} (ho : o.op = .alloc T) {z : AV} (hz : Γ.zero T = some z) : AO P o S (aput o.dst (.box z) S) :=
  es_AO fun K w0 Z Sc a w e hG => by subst e; exact alloc_sound hT hG ho hz
theorem ao_store (hT : TabOk P Γ) {T : Nat} {x y : Operand} (ho : o.op = .store T x y) (hdst : o.dst = none) {r : Nat} {p : List Nat} {v : AV} (hx : ard S x = some (.at r p)) (hy : ard S y = some v)
    (hno : (arefs v).any (fun rp => hitA rp.1 rp.2 (.at r p)) = false) {v' : AV} {S' : List AV} (ht : atake S v = some (v', S')) {old : AV} (hold : aget S' r p = some old) (hk : Γ.kind T ≠ .no) (hsz : alen v' = Γ.size T) (hso : alen old = Γ.size T) :
    AO P o S (asetq S' r p v' old) := es_AO fun K w0 Z Sc a w e hG => by subst e; exact store_sound hT hG ho hdst hx hy hno ht hold hk hsz hso
theorem ao_extract {t i : Nat} (ho : o.op = .extract (.tmp t) i) {vs : List AV} {v : AV} (ht : S[t]? = some (.tup vs)) (hi : vs[i]? = some v) (hpl : plA v = true) : AO P o S (aput o.dst v (S.set t (.tup (vs.set i .undef)))) :=
  es_AO fun K w0 Z Sc a w e hG => by subst e; exact extract_sound hG ho ht hi hpl
theorem ao_movetup {t : Nat} (ho : o.op = .move (.tmp t)) {vs : List AV} (ht : S[t]? = some (.tup vs)) : AO P o S (aput o.dst (.tup vs) (S.set t .undef)) :=
  es_AO fun K w0 Z Sc a w e hG => by subst e; exact movetup_sound hG ho ht
theorem ao_make (hT : TabOk P Γ) {T E : Nat} {x y : Operand} (ho : o.op = .makeSlice T x y) (hk : Γ.kind T = .sl E) {z : AV} (hz : Γ.zero E = some z) (hE : Γ.kind E ≠ .no)
    {k1 k2 : IntKind} {n m : Nat} (hx : ard S x = some (.int k1 (n : Int))) (hy : ard S y = some (.int k2 (m : Int))) (hnm : n ≤ m) (hE0 : Γ.size E ≠ 0) (hb : Γ.bytes E * m ≤ 281474976710656) (hm : m ≤ maxLen) :
    AO P o S (aput o.dst (.lst true (Γ.size E) (List.replicate n z)) S) := es_AO fun K w0 Z Sc a w e hG => by subst e; exact make_sound hT hG ho hk hz hE hx hy hnm hE0 hb hm

/-- One step, told by computation, where it is no call. keep: an assigned list is looked at, not taken. -/
def ast (Γ : Tab) (keep : Bool) (S : List AV) (o : Oper) : Option (List AV) :=
  match o.op with
  | .assign x => match ard S x with
    | some v => if keep = true ∨ arefs v = [] then some (aput o.dst v S) else (match atake S v with | some (v', S') => some (aput o.dst v' S') | none => none)
    | none => none
  | .box _ x => match ard S x with
    | some v => (match atake S v with | some (v', S') => some (aput o.dst (.box v') S') | none => none)
    | none => none
  | .alloc T => match Γ.zero T with | some z => some (aput o.dst (.box z) S) | none => none
  | .store T x y => match o.dst, ard S x, ard S y with
    | none, some (.at r p), some v => if (arefs v).any (fun rp => hitA rp.1 rp.2 (.at r p)) = true then none else (match atake S v with
      | some (v', S') => (match aget S' r p with
        | some old => if Γ.kind T ≠ .no ∧ alen v' = Γ.size T ∧ alen old = Γ.size T then some (asetq S' r p v' old) else none
        | none => none)
      | none => none)
    | _, _, _ => none
  | .extract (.tmp t) i => match S[t]? with
    | some (.tup vs) => (match vs[i]? with | some v => if plA v = true then some (aput o.dst v (S.set t (.tup (vs.set i .undef)))) else none | none => none)
    | _ => none
  | _ => match qv Γ S o with | some v => some (aput o.dst v S) | none => none
theorem ast_AO (hT : TabOk P Γ) {keep : Bool} {S' : List AV} (h : ast Γ keep S o = some S') : AO P o S S' := by
  unfold ast at h
  split at h
  · rename_i x ho
    split at h
    · rename_i v hx
      split at h
      · rename_i hk
        simp only [Option.some.injEq] at h; subst h
        exact ao_assign_ref ho hx
      · split at h
        · rename_i v' S1 ht
          simp only [Option.some.injEq] at h; subst h
          exact ao_assign_take ho hx ht
        · cases h
    · cases h
  · rename_i T x ho
    split at h
    · rename_i v hx
      split at h
      · rename_i v' S1 ht
        simp only [Option.some.injEq] at h; subst h
        exact ao_box ho hx ht
      · cases h
    · cases h
  · rename_i T ho
    split at h
    · rename_i z hz
      simp only [Option.some.injEq] at h; subst h
      exact ao_alloc hT ho hz
    · cases h
  · rename_i T x y ho
    split at h
    · rename_i r p v hd hx hy
      split at h
      · cases h
      · rename_i hno
        split at h
        · rename_i v' S1 ht
          split at h
          · rename_i old hold
            split at h
            · rename_i hc
              simp only [Option.some.injEq] at h; subst h
              exact ao_store hT ho hd hx hy (by simpa using hno) ht hold hc.1 hc.2.1 hc.2.2
            · cases h
          · cases h
        · cases h
    · cases h
  · rename_i t i ho
    split at h
    · rename_i vs ht
      split at h
      · rename_i v hi
        split at h
        · rename_i hp
          simp only [Option.some.injEq] at h; subst h
          exact ao_extract ho ht hi hp
        · cases h
      · cases h
    · cases h
  · split at h
    · rename_i v hv
      simp only [Option.some.injEq] at h; subst h
      exact aq_AO hT hv
    · cases h
/-- A call whose arguments lean on nothing of the frame. -/
theorem al_call {f : Nat} {args : Array Operand} {ats : Array TypeId} {vs : List AV} {r : AV} {S' : List AV} (hg : gchk ops S o = some true) (ho : o.op = .call { callee := .value (.func f), args, argTypes := ats }) (hf : ∀ vs w, (callFunc f vs).run P w = .ok (.enter f vs) w)
    (hvs : ards S args.toList = some vs) (hpl : plAs vs = true) (hS : Sound P f vs r) (hp : aput o.dst r S = S') (h : AL P false ops l S' N) : AL P false ops (o :: l) S N := by
  subst hp
  exact al_op hg (call_AO ho hf hvs hpl hS) h
/-- A call that is shown what the frame holds. -/
theorem al_snap {f : Nat} {args : Array Operand} {ats : Array TypeId} {vs ps : List AV} {r : AV} {S' : List AV} (hg : gchk ops S o = some true) (ho : o.op = .call { callee := .value (.func f), args, argTypes := ats }) (hf : ∀ vs w, (callFunc f vs).run P w = .ok (.enter f vs) w)
    (hvs : ards S args.toList = some vs) (hps : asnaps S vs = some ps) (hS : Sound P f ps r) (hn : noSh r = true) (hp : aput o.dst r S = S') (h : AL P false ops l S' N) : AL P false ops (o :: l) S N := by
  subst hp
  exact al_op hg (call_snap ho hf hvs hps hS hn) h
theorem al_make (hT : TabOk P Γ) {T E : Nat} {x y : Operand} {z : AV} {k1 k2 : IntKind} {n m : Nat} {S' : List AV} (hg : gchk ops S o = some true) (ho : o.op = .makeSlice T x y) (hk : Γ.kind T = .sl E) (hz : Γ.zero E = some z) (hE : Γ.kind E ≠ .no)
    (hx : ard S x = some (.int k1 (n : Int))) (hy : ard S y = some (.int k2 (m : Int))) (hnm : n ≤ m) (hE0 : Γ.size E ≠ 0) (hb : Γ.bytes E * m ≤ 281474976710656) (hm : m ≤ maxLen) (hp : aput o.dst (.lst true (Γ.size E) (List.replicate n z)) S = S') (h : AL P false ops l S' N) : AL P false ops (o :: l) S N := by
  subst hp
  exact al_op hg (ao_make hT ho hk hz hE hx hy hnm hE0 hb hm) h
/-- A step by computation. -/
theorem al_s (hT : TabOk P Γ) (keep : Bool) {S' : List AV} (hg : gchk ops S o = some true) (hv : ast Γ keep S o = some S') (h : AL P false ops l S' N) : AL P false ops (o :: l) S N := al_op hg (ast_AO hT hv) h
end
end Go.Bv

/-! Regions whose order is drawn: every order comes to the same frame. -/
namespace Go.Bv
open Go Go.RowKit
set_option linter.unusedSimpArgs false
set_option linter.unusedVariables false

/-- One operation of a region, guard and all. -/
def AS (P : Program) (ops : Array Oper) (o : Oper) (S S' : List AV) : Prop :=
  (gchk ops S o = some true ∧ AO P o S S') ∨ (gchk ops S o = some false ∧ aput o.dst (.tup []) S = S')

/-- Done as well: k. -/
def also (D : Nat → Bool) (k : Nat) : Nat → Bool := fun j => bif j == k then true else D j

/-- A: what must be done ahead of each: its own edges, and what these wait for. -/
def ancOk (ops : Array Oper) (A : List (List Nat)) : Bool :=
  (List.range ops.size).all fun k => match ops[k]? with
    | none => true
    | some o => (o.after.all fun e => !Region.binds .any e || decide (e.on < k)) &&
      ((A[k]?).getD []).all fun j => o.after.any fun e => Region.binds .any e && (e.on == j || ((A[e.on]?).getD []).contains j)

/-- Slot t of the frame, if b. -/
def putIf (b : Bool) : Nat → AV → List AV → List AV
  | _, _, [] => []
  | 0, v, x :: S => (bif b then v else x) :: S
  | t + 1, v, x :: S => x :: putIf b t v S
def putIfs (b : Bool) : List (Nat × AV) → List AV → List AV
  | [], S => S
  | (t, v) :: ws, S => putIfs b ws (putIf b t v S)
/-- The frame when D is done: W: what each operation writes. -/
def fillW (D : Nat → Bool) : Nat → List (List (Nat × AV)) → List AV → List AV
  | _, [], S => S
  | k, ws :: W, S => fillW D (k + 1) W (putIfs (D k) ws S)
theorem putIf_false : ∀ (t : Nat) (v : AV) (S : List AV), putIf false t v S = S
  | _, _, [] => by simp [putIf]
  | 0, v, x :: S => by simp [putIf]
  | t + 1, v, x :: S => by simp [putIf, putIf_false t v S]
theorem putIfs_false : ∀ (ws : List (Nat × AV)) (S : List AV), putIfs false ws S = S
  | [], S => rfl
  | (t, v) :: ws, S => by simp [putIfs, putIf_false, putIfs_false ws]
theorem fillW_none : ∀ (W : List (List (Nat × AV))) (k : Nat) (S : List AV), fillW (fun _ => false) k W S = S
  | [], _, _ => rfl
  | ws :: W, k, S => by simp [fillW, putIfs_false, fillW_none W]
theorem fillW_congr {D D' : Nat → Bool} : ∀ (W : List (List (Nat × AV))) (k : Nat) (S : List AV), (∀ j, k ≤ j → j < k + W.length → D j = D' j) → fillW D k W S = fillW D' k W S
  | [], _, _, _ => rfl
  | ws :: W, k, S, h => by
    simp only [fillW]
    rw [h k (Nat.le_refl _) (by simp)]
    exact fillW_congr W (k + 1) _ (fun j h1 h2 => h j (by omega) (by simp; omega))

/-- All of these are done. -/
def allT (D : Nat → Bool) : List Nat → Prop
  | [] => True
  | j :: r => D j = true ∧ allT D r
theorem allT_of {D : Nat → Bool} : ∀ (r : List Nat), (∀ j ∈ r, D j = true) → allT D r
  | [], _ => trivial
  | j :: r, h => ⟨h j (by simp), allT_of r fun i hi => h i (by simp [hi])⟩

section
variable {P : Program} {Γ : Tab} {S : List AV} {ops : Array Oper} {l : List Oper} {o : Oper} {N : List AV → Prop} {A : List (List Nat)} {F : (Nat → Bool) → List AV}

/-- What is done has had its forerunners done. -/
def Cl (A : List (List Nat)) (D : Nat → Bool) : Prop := ∀ i, D i = true → ∀ j ∈ (A[i]?).getD [], D j = true
/-- The steps of all operations, whatever else is done. -/
def Steps (P : Program) (ops : Array Oper) (A : List (List Nat)) (F : (Nat → Bool) → List AV) : Nat → List Oper → Prop
  | _, [] => True
  | k, o :: l => (∀ D, Cl A D → D k = false → (∀ j ∈ (A[k]?).getD [], D j = true) → AS P ops o (F D) (F (also D k))) ∧ Steps P ops A F (k + 1) l
theorem steps_at : ∀ {l : List Oper} {k j : Nat} {o : Oper}, Steps P ops A F k l → l[j]? = some o → ∀ D, Cl A D → D (k + j) = false → (∀ i ∈ (A[k + j]?).getD [], D i = true) → AS P ops o (F D) (F (also D (k + j)))
  | [], _, _, _, _, h => by simp at h
  | o :: l, k, 0, o', h, hj => by
    simp only [List.getElem?_cons_zero, Option.some.injEq] at hj
    subst hj
    exact h.1
  | o :: l, k, j + 1, o', h, hj => by
    have := steps_at (j := j) h.2 (by simpa using hj)
    rw [show k + (j + 1) = k + 1 + j by omega]
    exact this

theorem any_go (hA : ancOk ops A = true) (hst : Steps P ops A F 0 ops.toList) {K : Kp P} (hF : ∀ o ∈ ops.toList, K.free o.dst) {w0 : World} {Z0 : Nat → Prop} {Q : Exit → Act → World → Prop}
    (hQ : ∀ D a w, (∀ k, k < ops.size → D k = true) → At K w0 Z0 (F D) a w → Q .normal a w) :
    ∀ (fuel : Nat) (listed : Array Bool) (D : Nat → Bool) (a : Act) (w : World), listed.size = ops.size → (∀ j, j < ops.size → listed[j]? = some (D j)) →
      Cl A D → ((List.range ops.size).filter fun k => !D k).length ≤ fuel → At K w0 Z0 (F D) a w → wpAny P .any ops Q fuel listed a w := by
  have hA' : ∀ k o, ops[k]? = some o → (∀ e ∈ o.after, Region.binds .any e = true → e.on < k) ∧ ∀ j ∈ (A[k]?).getD [], ∃ e ∈ o.after, Region.binds .any e = true ∧ (e.on = j ∨ j ∈ (A[e.on]?).getD []) := by
    intro k o ho
    have hlt : k < ops.size := (Array.getElem?_eq_some_iff.1 ho).1
    have := List.all_eq_true.1 hA k (List.mem_range.2 hlt)
    simp only [ho, Bool.and_eq_true, Array.all_eq_true_iff_forall_mem, Bool.or_eq_true, Bool.not_eq_true', decide_eq_true_eq, List.all_eq_true, Array.any_eq_true'] at this
    refine ⟨fun e he hb => (this.1 e he).resolve_left (by simp [hb]), fun j hj => ?_⟩
    obtain ⟨e, he, h1⟩ := this.2 j hj
    refine ⟨e, he, h1.1, h1.2.imp (fun h => by simpa using h) (fun h => by simpa using h)⟩
  have all_of : ∀ (listed : Array Bool) (D : Nat → Bool), listed.size = ops.size → (∀ j, j < ops.size → listed[j]? = some (D j)) → Region.ready .any ops listed = [] → ∀ k, k < ops.size → D k = true := by
    intro listed D hs hl hr k
    induction k using Nat.strongRecOn with
    | _ k ih =>
      intro hk
      cases hD : D k with
      | true => rfl
      | false =>
        have : k ∈ Region.ready .any ops listed := by
          rw [mem_ready]
          refine ⟨by simp [hl k hk, hD], ops[k], by simp [hk], fun e he hb => ?_⟩
          have := (hA' k ops[k] (by simp [hk])).1 e he hb
          have h2 : e.on < ops.size := by omega
          simp [hl _ h2, ih _ this h2]
        rw [hr] at this
        simp at this
  intro fuel
  induction fuel with
  | zero =>
    intro listed D a w hs hl hinv hf hAt
    have hall : ∀ k, k < ops.size → D k = true := by
      intro k hk
      have : (List.range ops.size).filter (fun k => !D k) = [] := List.eq_nil_of_length_eq_zero (by omega)
      have := List.filter_eq_nil_iff.1 this k (List.mem_range.2 hk)
      simpa using this
    refine ⟨?_, hQ D a w hall hAt⟩
    apply List.eq_nil_iff_forall_not_mem.2
    intro j hj
    obtain ⟨h1, o, h2, _⟩ := mem_ready.1 hj
    have hj' : j < ops.size := (Array.getElem?_eq_some_iff.1 h2).1
    simp [hl j hj', hall j hj'] at h1
  | succ fuel ih =>
    intro listed D a w hs hl hinv hf hAt
    refine ⟨fun hr => hQ D a w (all_of listed D hs hl hr) hAt, fun i hi => ?_⟩
    obtain ⟨h1, o, ho, hpre⟩ := mem_ready.1 hi
    have hil : i < ops.size := (Array.getElem?_eq_some_iff.1 ho).1
    have hDi : D i = false := by simpa [hl i hil] using h1
    have hanc : ∀ j ∈ (A[i]?).getD [], D j = true := by
      intro j hj
      obtain ⟨e, he, hb, h2⟩ := (hA' i o ho).2 j hj
      have hlt := (hA' i o ho).1 e he hb
      have hDe : D e.on = true := by
        have := hpre e he hb
        have h3 : e.on < ops.size := by omega
        simpa [hl _ h3] using this
      rcases h2 with h2 | h2
      · rw [← h2]; exact hDe
      · exact hinv e.on hDe j h2
    have hst' := steps_at (k := 0) (j := i) (o := o) hst (by simpa using ho) D hinv (by simpa using hDi) (by simpa using hanc)
    rw [Nat.zero_add] at hst'
    have hnext : ∀ a' w', At K w0 Z0 (F (also D i)) a' w' → wpAny P .any ops Q fuel (listed.setIfInBounds i true) a' w' := by
      intro a' w' hAt'
      refine ih _ (also D i) a' w' (by simp [hs]) (fun j hj => ?_) (fun k hD j hj => ?_) ?_ hAt'
      · by_cases hji : j = i
        · subst hji; simp [also, hs, hil]
        · have : (j == i) = false := by simp [hji]
          rw [Array.getElem?_setIfInBounds_ne (by omega), hl j hj]; simp [also, this]
      · have mono : ∀ j, D j = true → also D i j = true := fun j h => by unfold also; cases (j == i) <;> simp [h]
        by_cases hki : k = i
        · subst hki; exact mono j (hanc j hj)
        · have : (k == i) = false := by simp [hki]
          simp only [also, this, cond_false] at hD
          exact mono j (hinv k hD j hj)
      · have hlt : ((List.range ops.size).filter fun k => !also D i k).length < ((List.range ops.size).filter fun k => !D k).length := by
          have hsub : ((List.range ops.size).filter fun k => !also D i k) = (((List.range ops.size).filter fun k => !D k).filter fun k => !(k == i)) := by
            rw [List.filter_filter]
            apply List.filter_congr
            intro k _
            unfold also
            cases (k == i) <;> simp
          rw [hsub]
          refine List.length_filter_lt_length_iff_exists.2 ⟨i, ?_, by simp⟩
          rw [List.mem_filter]
          exact ⟨List.mem_range.2 hil, by simp [hDi]⟩
        omega
    unfold wpOp
    simp only [ho]
    rcases hst' with ⟨hg, hop⟩ | ⟨hg, hput⟩
    · rw [gchk_wanted hAt hg, if_pos rfl]
      exact .inl (Oper.wp_mono (fun a' w' h => hnext a' w' h) (hop K w0 Z0 a w (hF o (by rw [Array.mem_toList_iff]; exact Array.mem_of_getElem? ho)) hAt Q))
    · rw [gchk_wanted hAt hg, if_neg (by simp)]
      refine hnext _ w ?_
      rw [← hput]
      exact hAt.skip o.dst (hF o (by rw [Array.mem_toList_iff]; exact Array.mem_of_getElem? ho))

/-- A drawn region: whatever its order, it fills the same frame. -/
theorem aw_anyF (hT : TabOk P Γ) {id : Nat} {Q : Exit → List AV → Prop} (A : List (List Nat)) (hA : ancOk l.toArray A = true) (F : (Nat → Bool) → List AV) (h0 : F (fun _ => false) = S)
    (hst : Steps P l.toArray A F 0 l) (hQ : ∀ D, (∀ k, k < l.length → D k = true) → Q .normal (F D)) : AW P (.region id l.toArray true) S Q := fun K w0 Z0 a w hF hAt => by
  refine wp_region_any hT.follows (any_go (K := K) (hF := by simpa [Kp.frees] using hF) (w0 := w0) (Z0 := Z0) (F := F) (A := A) hA (by simpa using hst) (fun D a w hD h => ⟨F D, hQ D (by simpa using hD), h⟩) _ _ (fun _ => false) _ _ (by simp) (fun j hj => by simp only [Array.getElem?_replicate]; rw [if_pos hj]) (fun i h => by cases h) ?_ ?_)
  · exact Nat.le_trans (List.length_filter_le _ _) (by simp)
  · rw [h0]; exact hAt.drawn
/-- .. told by what each operation writes. -/
theorem aw_anyW {id : Nat} {Q : Exit → List AV → Prop} (A : List (List Nat)) (W : List (List (Nat × AV))) (hT : TabOk P Γ) (hA : ancOk l.toArray A = true)
    (hst : Steps P l.toArray A (fun D => fillW D 0 W S) 0 l) (hl : W.length = l.length) (hQ : Q .normal (fillW (fun _ => true) 0 W S)) : AW P (.region id l.toArray true) S Q :=
  aw_anyF hT A hA (fun D => fillW D 0 W S) (fillW_none W 0 S) hst fun D hD => by
    have : fillW D 0 W S = fillW (fun _ => true) 0 W S := fillW_congr W 0 S (fun j _ h => hD j (by omega))
    rw [this]; exact hQ

theorem steps_nil {k : Nat} : Steps P ops A F k [] := trivial
theorem steps_cons {k : Nat} (h1 : ∀ D, D k = false → allT D ((A[k]?).getD []) → AS P ops o (F D) (F (also D k))) (h2 : Steps P ops A F (k + 1) l) : Steps P ops A F k (o :: l) := ⟨fun D _ hk hd => h1 D hk (allT_of _ hd), h2⟩
theorem as_s (hT : TabOk P Γ) (keep : Bool) {S S' : List AV} (hg : gchk ops S o = some true) (hv : ast Γ keep S o = some S') : AS P ops o S S' := .inl ⟨hg, ast_AO hT hv⟩
theorem as_q (hT : TabOk P Γ) {v : AV} {S S' : List AV} (hg : gchk ops S o = some true) (hv : qv Γ S o = some v) (hS : aput o.dst v S = S') : AS P ops o S S' := by
  subst hS; exact .inl ⟨hg, aq_AO hT hv⟩
theorem as_op {S S' : List AV} (hg : gchk ops S o = some true) (h : AO P o S S') : AS P ops o S S' := .inl ⟨hg, h⟩
theorem as_call {f : Nat} {args : Array Operand} {ats : Array TypeId} {S S' vs : List AV} {r : AV} (hg : gchk ops S o = some true) (ho : o.op = .call { callee := .value (.func f), args, argTypes := ats })
    (hf : ∀ vs w, (callFunc f vs).run P w = .ok (.enter f vs) w) (hvs : ards S args.toList = some vs) (hpl : plAs vs = true) (hS : Sound P f vs r) (hS' : aput o.dst r S = S') : AS P ops o S S' := by
  subst hS'; exact .inl ⟨hg, call_AO ho hf hvs hpl hS⟩
theorem as_snap {f : Nat} {args : Array Operand} {ats : Array TypeId} {S S' vs ps : List AV} {r : AV} (hg : gchk ops S o = some true) (ho : o.op = .call { callee := .value (.func f), args, argTypes := ats })
    (hf : ∀ vs w, (callFunc f vs).run P w = .ok (.enter f vs) w) (hvs : ards S args.toList = some vs) (hps : asnaps S vs = some ps) (hS : Sound P f ps r) (hn : noSh r = true) (hS' : aput o.dst r S = S') : AS P ops o S S' := by
  subst hS'; exact .inl ⟨hg, call_snap ho hf hvs hps hS hn⟩
end
end Go.Bv
