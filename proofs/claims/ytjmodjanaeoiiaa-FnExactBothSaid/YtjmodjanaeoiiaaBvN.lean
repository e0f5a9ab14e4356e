/- Quiet operations: slices, lengths, functions; all in one theorem. Generic: no program. -/
import Derived.Test.YtjmodjanaeoiiaaBvM
namespace Go.Bv
open Go Go.RowKit
set_option linter.unusedSimpArgs false
set_option linter.unusedVariables false
section
variable {K : Nat → Prop} {w0 : World} {Z : Nat → Prop} {Sc L : List CV} {a : Act} {w : World} {P : Program} {Γ : Tab}

theorem bnd_run (h : Good K w0 Z Sc L a w) {x : Option Operand} {dflt top n : Nat} (hb : bndA (ers Sc) x dflt top = some n) (code : BoundsCode) :
    (x = none ∧ n = dflt) ∨ ∃ x', x = some x' ∧ n ≤ top ∧ (Instr.sliceBound (a.eval x') top code).run P w = .ok n w := by
  cases x with
  | none => simp [bndA] at hb; exact .inl ⟨rfl, hb.symm⟩
  | some x' =>
    simp only [bndA] at hb
    split at hb
    case h_2 => cases hb
    rename_i k m hx
    split at hb
    case isFalse => cases hb
    rename_i h0
    simp only [Option.some.injEq] at hb
    subst hb
    obtain ⟨c, hc, hval, _, _⟩ := h.rd hx
    have := er_int hc; subst this
    refine .inr ⟨x', rfl, by omega, ?_⟩
    rw [← hval]
    simp [Instr.sliceBound, asIntOf, val_int, h0]
theorem bnd_le {S : List AV} {x : Option Operand} {dflt top n : Nat} (hb : bndA S x dflt top = some n) (hd : dflt ≤ top) : n ≤ top := by
  cases x with
  | none => simp [bndA] at hb; omega
  | some x' =>
    simp only [bndA] at hb
    split at hb
    case h_2 => cases hb
    split at hb
    case isFalse => cases hb
    simp only [Option.some.injEq] at hb; omega

theorem run_bounds (h : Good K w0 Z Sc L a w) {lo hi : Option Operand} {len cap l hh : Nat} {top : Nat} (htop : top ≤ cap) (hlen : len ≤ top) (hb1 : bndA (ers Sc) hi len top = some hh) (hb2 : bndA (ers Sc) lo 0 hh = some l) (isSl : Bool) :
    (Instr.sliceBounds isSl len cap (lo.map a.eval) (hi.map a.eval) none).run P w = .ok (l, hh, cap) w ∧ l ≤ hh ∧ hh ≤ top := by
  have hle : hh ≤ top := bnd_le hb1 hlen
  have hle2 : l ≤ hh := bnd_le hb2 (Nat.zero_le _)
  refine ⟨?_, hle2, hle⟩
  -- against the capacity instead of the length
  have hcapb : ∀ code, hi = none ∧ hh = len ∨ ∃ x', hi = some x' ∧ (Instr.sliceBound (a.eval x') cap code).run P w = .ok hh w := by
    intro code
    cases hi with
    | none => simp [bndA] at hb1; exact .inl ⟨rfl, hb1.symm⟩
    | some x' =>
      simp only [bndA] at hb1
      split at hb1
      case h_2 => cases hb1
      rename_i k m hx
      split at hb1
      case isFalse => cases hb1
      rename_i h0
      simp only [Option.some.injEq] at hb1
      subst hb1
      obtain ⟨c, hc, hval, _, _⟩ := h.rd hx
      have := er_int hc; subst this
      refine .inr ⟨x', rfl, ?_⟩
      rw [← hval]
      simp [Instr.sliceBound, asIntOf, val_int, h0.1, show m ≤ (cap : Int) by omega]
  rcases hcapb (if isSl then .sliceAcap else .sliceAlen) with ⟨rfl, rfl⟩ | ⟨x', rfl, hx'⟩ <;>
  rcases bnd_run (P := P) h hb2 .sliceB with ⟨rfl, rfl⟩ | ⟨y', rfl, _, hy'⟩ <;>
  simp_all [Instr.sliceBounds]

theorem all_size {E s : Nat} {xs : List CV} (hall : (ers xs).all (fun y => alen y == Γ.size E) = true) (hs : ∀ x ∈ xs, (flat x).length = s) (hne : xs ≠ []) : Γ.size E = s := by
  cases xs with
  | nil => exact absurd rfl hne
  | cons x xs =>
    simp only [ers, List.all_cons, Bool.and_eq_true, beq_iff_eq] at hall
    rw [← hall.1, alen_er, hs x (by simp)]

theorem slice_lst (hT : TabOk P Γ) (h : Good K w0 Z Sc L a w) {o : Oper} {T E : Nat} {x : Operand} {lo hi : Option Operand} (ho : o.op = .slice T x lo hi none) (hk : Γ.kind T = .sl E) (hE : Γ.kind E ≠ .no)
    {s cap : Nat} {A : Option Addr} {xs : List CV} (hval : val (.lst false s A cap xs) = a.eval x) (hrd : Rd w Z Sc (.lst false s A cap xs)) (hall : (ers xs).all (fun y => alen y == Γ.size E) = true)
    {hh l : Nat} (hb1 : bndA (ers Sc) hi xs.length xs.length = some hh) (hb2 : bndA (ers Sc) lo 0 hh = some l) : QS P a w Z Sc o (.lst false s (((ers xs).drop l).take (hh - l))) := by
  have hkk := hrd.ok
  simp only [Ok] at hkk
  obtain ⟨⟨b1, b2, b3⟩, c2, c3, c4⟩ := hkk
  obtain ⟨hrun, hl1, hl2⟩ := run_bounds (P := P) h b1 (Nat.le_refl _) hb1 hb2 true
  have hsz := run_size (P := P) hT hE w
  have hwf := hrd.wf
  simp only [Wf] at hwf
  have hlen : ((xs.drop l).take (hh - l)).length = hh - l := by simp; omega
  have hsub : PlL ((xs.drop l).take (hh - l)) := by
    rw [plL_iff] at hwf ⊢
    exact fun u hu => hwf u (List.mem_of_mem_drop (List.mem_of_mem_take hu))
  have hfp0 : fps ((xs.drop l).take (hh - l)) = [] := by
    have h0 := c3 (by trivial)
    have := (fps_sub l (hh - l) xs).subset
    rw [h0] at this
    exact List.eq_nil_iff_forall_not_mem.2 fun b hb => by simpa using this hb
  refine ⟨.lst false s (if cap = l then A else A.map (·.add (l * Γ.size E))) (cap - l) ((xs.drop l).take (hh - l)), ?_, ?_, rd_scalar (by simpa only [Pl] using hsub) ?_ ?_, by simp⟩
  · simp [er, ers_eq, List.map_take, List.map_drop]
  · unfold execOp
    simp only [ho]
    rw [← hval]
    have hvl : val (.lst false s A cap xs) = .slice A xs.length cap := rfl
    simp only [hvl, Instr.sliceAt, Instr.slice, Sem.run_bind, run_underlying (hT.sl T E hk), Result.andThen_ok, hrun, hsz, Option.map_none, Sem.run_pure]
    have hvr : ∀ B C, val (.lst false s B C ((xs.drop l).take (hh - l))) = .slice B (hh - l) C := fun B C => by
      show Value.slice B _ C = _
      rw [hlen]
    rw [hvr]
  · simp [fp, hfp0]
  · simp only [Ok]
    refine ⟨⟨by rw [hlen]; omega, ?_, by simp⟩, fun x hx => c2 x (List.mem_of_mem_drop (List.mem_of_mem_take hx)), fun _ => hfp0, ?_⟩
    · rw [hlen]
      by_cases hn : hh - l = 0
      · exact .inl hn
      · rcases b2 with b2 | ⟨ad, rfl, hsp, hcell, hzb⟩
        · omega
        · have hsE := all_size hall c2 (by intro e; subst e; simp at hl2; omega)
          refine .inr ⟨ad.add (l * s), ?_, add_spot hsp _, cells_sub hsp c2 hcell l (hh - l) (by omega), fun _ => by rw [add_block]; exact hzb (by trivial)⟩
          rw [if_neg (by omega), hsE]
          rfl
    · rw [okL_iff] at c4 ⊢
      exact fun u hu => c4 u (List.mem_of_mem_drop (List.mem_of_mem_take hu))

theorem slice_ref (hT : TabOk P Γ) (h : Good K w0 Z Sc L a w) {o : Oper} {T E : Nat} {x : Operand} {lo hi : Option Operand} (ho : o.op = .slice T x lo hi none) (hk : Γ.kind T = .sl E) (hE : Γ.kind E ≠ .no)
    {r l0 m : Nat} {p : List Nat} {v : Value} (hval : val (.ref r p l0 m v) = a.eval x) (hrd : Rd w Z Sc (.ref r p l0 m v)) {s0 : Nat} {ys : List AV} (hg : aget (ers Sc) r p = some (.lst true s0 ys))
    (hall : ys.all (fun y => alen y == Γ.size E) = true) {hh l : Nat} (hb1 : bndA (ers Sc) hi m m = some hh) (hb2 : bndA (ers Sc) lo 0 hh = some l) : QS P a w Z Sc o (.ref r p (l0 + l) (hh - l)) := by
  have hr := hrd.refOk
  simp only [RefOk] at hr
  obtain ⟨x0, s, A, cap, xs, lo', hx0, hp, hcg, hlo, A', c', rfl, hloc, rfl, hnc, hA0, hA1⟩ := hr
  have hys : ys = ers xs := by
    have := er_cget (Sc := Sc) (r := r) (p := p) (y := .lst true s A cap xs) (l := lo') (by simp [cget, hx0, hcg])
    rw [hg] at this; simpa [er] using (by simpa [er] using this : s0 = s ∧ ys = ers xs).2
  subst hys
  have hokx := ((okL_cut hx0).1 ((okL_append _ _).1 h.ok).1).2.1
  have hoky : Ok w Z (.lst true s A cap xs) := ok_get p _ _ _ lo' hcg (ok_root hokx).1
  simp only [Ok] at hoky
  obtain ⟨⟨b1, b2, b3⟩, c2, c3, c4⟩ := hoky
  obtain ⟨hrun, hl1, hl2⟩ := run_bounds (P := P) h hnc (Nat.le_refl _) hb1 hb2 true
  have hsz := run_size (P := P) hT hE w
  refine ⟨.ref r p (l0 + l) (hh - l) (.slice (if cap - l0 = l then A' else A'.map (·.add (l * Γ.size E))) (hh - l) (cap - l0 - l)), by simp [er], ?_, ⟨?_, by simp [Wf], by simp [Ok], by simp [fp], .inr (by simp [NoOwn])⟩, by simp⟩
  · unfold execOp
    simp only [ho]
    rw [← hval]
    have hvl : val (.ref r p l0 m (.slice A' m (cap - l0))) = .slice A' m (cap - l0) := rfl
    simp only [hvl, Instr.sliceAt, Instr.slice, Sem.run_bind, run_underlying (hT.sl T E hk), Result.andThen_ok, hrun, hsz, Option.map_none, Sem.run_pure]
    rfl
  · simp only [RefOk]
    refine ⟨x0, s, A, cap, xs, lo', hx0, hp, hcg, by omega, _, _, rfl, by omega, by omega, by omega, fun e => ?_, fun hlt => ?_⟩
    · have e1 : l0 = 0 := by omega
      have e2 : l = 0 := by omega
      subst e1; subst e2
      rw [hA0 rfl]
      split
      · rfl
      · cases A <;> simp [Addr.add]
    · rw [if_neg (by omega), hA1 (by omega)]
      cases hA : A with
      | none => rfl
      | some ad =>
        simp only [Option.map_some]
        have hsp : ad.spot = none := by
          obtain ⟨_, ad', _, _, e, hs, _⟩ := b3 (by trivial) (by omega)
          rw [hA] at e; cases e; exact hs
        rw [add_add hsp]
        congr 2
        by_cases hl0 : l = 0
        · subst hl0; simp
        · rw [all_size hall c2 (by intro e; subst e; simp at hlo; omega), Nat.add_mul]

theorem slice_sound (hT : TabOk P Γ) (h : Good K w0 Z Sc L a w) {o : Oper} {T : Nat} {x : Operand} {lo hi : Option Operand} (ho : o.op = .slice T x lo hi none) {v : AV} (hv : qv Γ (ers Sc) o = some v) : QS P a w Z Sc o v := by
  simp only [qv, ho] at hv
  split at hv
  · rename_i s hk hx
    obtain ⟨c, hc, hval, _, _⟩ := h.rd hx
    have := er_str hc; subst this
    cases hb1 : bndA (ers Sc) hi s.size s.size with
    | none => simp [hb1] at hv
    | some hh =>
      simp only [hb1] at hv
      cases hb2 : bndA (ers Sc) lo 0 hh with
      | none => simp [hb2] at hv
      | some l =>
        simp only [hb2, Option.some.injEq] at hv
        subst hv
        obtain ⟨hrun, _, _⟩ := run_bounds (P := P) h (Nat.le_refl _) (Nat.le_refl _) hb1 hb2 false
        unfold QS execOp
        simp only [ho]
        rw [← hval]
        refine ⟨.str _, rfl, ?_, rd_str _, by simp⟩
        simp only [val_str, Instr.sliceAt, Instr.slice, Sem.run_bind, run_underlying (hT.str T hk), Result.andThen_ok, hrun, Option.map_none, Option.isSome_none, Bool.false_eq_true, if_false, Sem.run_pure]
  · rename_i E s0 ys hk hx
    obtain ⟨c, hc, hval, hrd, _⟩ := h.rd hx
    obtain ⟨A, cap, xs, rfl, rfl⟩ := er_lst hc
    split at hv
    · cases hv
    rename_i hE
    have hlen : (ers xs).length = xs.length := by simp [ers_eq]
    rw [hlen] at hv
    cases hb1 : bndA (ers Sc) hi xs.length xs.length with
    | none => simp [hb1] at hv
    | some hh =>
      simp only [hb1] at hv
      cases hb2 : bndA (ers Sc) lo 0 hh with
      | none => simp [hb2] at hv
      | some l =>
        simp only [hb2, Option.some.injEq] at hv
        subst hv
        exact slice_lst hT h ho hk (fun e => hE (.inl e)) hval hrd (by
          cases e : (ers xs).all (fun y => alen y == Γ.size E)
          · exact absurd (.inr e) hE
          · rfl) hb1 hb2
  · rename_i E r p l0 m hk hx
    obtain ⟨c, hc, hval, hrd, _⟩ := h.rd hx
    obtain ⟨v', rfl⟩ := er_ref hc
    split at hv
    · cases hv
    rename_i hE
    cases hb1 : bndA (ers Sc) hi m m with
    | none => simp [hb1] at hv
    | some hh =>
      simp only [hb1] at hv
      cases hb2 : bndA (ers Sc) lo 0 hh with
      | none => simp [hb2] at hv
      | some l =>
        simp only [hb2] at hv
        cases hg : aget (ers Sc) r p with
        | none => simp [hg] at hv
        | some y =>
          simp only [hg] at hv
          split at hv
          case h_2 => cases hv
          rename_i ys he
          split at hv
          case isFalse => cases hv
          rename_i hall
          simp only [Option.some.injEq] at hv
          subst hv
          simp only [Option.some.injEq] at he
          subst he
          exact slice_ref hT h ho hk hE hval hrd hg hall hb1 hb2
  · cases hv

theorem ards_sound (h : Good K w0 Z Sc L a w) : ∀ (xs : List Operand) (vs : List AV), ards (ers Sc) xs = some vs → ∃ cs, ers cs = vs ∧ cs.map val = xs.map a.eval ∧ (∀ c ∈ cs, Rd w Z Sc c ∧ (∀ ys, c ≠ .tup ys))
  | [], vs, hv => by simp only [ards, Option.some.injEq] at hv; exact ⟨[], by simp [ers, hv], rfl, by simp⟩
  | x :: xs, vs, hv => by
    simp only [ards] at hv
    cases hx : ard (ers Sc) x with
    | none => simp [hx] at hv
    | some v =>
      simp only [hx] at hv
      cases hxs : ards (ers Sc) xs with
      | none => simp [hxs] at hv
      | some vs' =>
        simp only [hxs, Option.some.injEq] at hv
        subst hv
        obtain ⟨c, h1, h2, h3, h4⟩ := h.rd hx
        obtain ⟨cs, g1, g2, g3⟩ := ards_sound h xs vs' hxs
        refine ⟨c :: cs, by simp [ers, h1, g1], by simp [h2, g2], fun d hd => ?_⟩
        rcases List.mem_cons.1 hd with rfl | hd
        · exact ⟨h3, h4⟩
        · exact g3 d hd
end
end Go.Bv
