/- Sharing: a value handed on, of which the callee may only read. Generic: no program. -/
import Derived.Test.YtjmodjanaeoiiaaBvU
namespace Go.Bv
open Go Go.RowKit
set_option linter.unusedSimpArgs false
set_option linter.unusedVariables false

mutual
def csh : CV → CV
  | .lst _ s A c xs => .lst false s A c (cshs xs)
  | .agg xs => .agg (cshs xs)
  | x => x
def cshs : List CV → List CV
  | [] => []
  | x :: xs => csh x :: cshs xs
end
mutual
/-- The same, owned by nobody. -/
def ash : AV → AV
  | .lst _ s xs => .lst false s (ashs xs)
  | .agg xs => .agg (ashs xs)
  | x => x
def ashs : List AV → List AV
  | [] => []
  | x :: xs => ash x :: ashs xs
end
theorem cshs_len (xs : List CV) : (cshs xs).length = xs.length := by induction xs <;> simp [cshs, *]
theorem cshs_map (xs : List CV) : cshs xs = xs.map csh := by induction xs <;> simp [cshs, *]
theorem ashs_map (xs : List AV) : ashs xs = xs.map ash := by induction xs <;> simp [ashs, *]
mutual
theorem er_sh : ∀ x : CV, er (csh x) = ash (er x)
  | .lst _ _ _ _ xs => by simp only [csh, er, ash, ers_sh xs]
  | .agg xs => by simp only [csh, er, ash, ers_sh xs]
  | .undef _ | .bool _ | .int _ _ | .str _ | .tup _ | .fn _ _ | .ip _ _ | .at _ _ _ | .ref _ _ _ _ _ | .box _ _ _ => by simp [csh, er, ash]
theorem ers_sh : ∀ xs : List CV, ers (cshs xs) = ashs (ers xs)
  | [] => rfl
  | x :: xs => by simp only [cshs, ers, ashs, er_sh x, ers_sh xs]
end
mutual
theorem flat_sh : ∀ x : CV, flat (csh x) = flat x
  | .lst _ _ _ _ xs => by simp only [csh, flat, cshs_len]
  | .agg xs => by simp only [csh, flat, flats_sh xs]
  | .undef _ | .bool _ | .int _ _ | .str _ | .tup _ | .fn _ _ | .ip _ _ | .at _ _ _ | .ref _ _ _ _ _ | .box _ _ _ => by simp [csh]
theorem flats_sh : ∀ xs : List CV, flats (cshs xs) = flats xs
  | [] => rfl
  | x :: xs => by simp only [cshs, flats, flat_sh x, flats_sh xs]
end
mutual
theorem pl_sh : ∀ x : CV, Pl x → Pl (csh x)
  | .lst _ _ _ _ xs, h => by simp only [csh, Pl] at h ⊢; exact plL_sh xs h
  | .agg xs, h => by simp only [csh, Pl] at h ⊢; exact plL_sh xs h
  | .undef _, h | .bool _, h | .int _ _, h | .str _, h | .tup _, h | .fn _ _, h | .ip _ _, h | .at _ _ _, h | .ref _ _ _ _ _, h | .box _ _ _, h => by simpa only [csh] using h
theorem plL_sh : ∀ xs : List CV, PlL xs → PlL (cshs xs)
  | [], _ => by simp [cshs, PlL]
  | x :: xs, h => by simp only [cshs, PlL] at h ⊢; exact ⟨pl_sh x h.1, plL_sh xs h.2⟩
end
theorem agg_sh (x : CV) : (∃ ys, csh x = .agg ys) ↔ (∃ ys, x = .agg ys) := by cases x <;> simp [csh]

section
variable {w : World} {Z Z' : Nat → Prop}
mutual
theorem ok_sh (hZ : ∀ b, Z b → Z' b) : ∀ x : CV, Ok w Z x → Pl x → (∀ b ∈ fp x, Z' b) → Ok w Z' (csh x) ∧ fp (csh x) = []
  | .lst o s A c xs, h, hp, hf => by
    simp only [Ok] at h
    simp only [Pl] at hp
    obtain ⟨⟨h1, h2, h3⟩, h4, h5, h6⟩ := h
    simp only [fp, List.mem_append] at hf
    obtain ⟨k1, k2⟩ := okL_sh hZ xs h6 hp (fun b hb => hf b (.inr hb))
    simp only [csh, Ok, fp, k2, cshs_len, flats_sh]
    refine ⟨⟨⟨h1, ?_, fun e => by simp at e⟩, ?_, fun _ => trivial, k1⟩, by simp⟩
    · rcases h2 with h2 | ⟨a, e1, e2, e3, e4⟩
      · exact .inl h2
      · by_cases h0 : xs.length = 0
        · exact .inl h0
        · refine .inr ⟨a, e1, e2, e3, fun _ => ?_⟩
          cases o
          · exact hZ _ (e4 rfl)
          · refine hf _ (.inl ?_)
            rw [if_neg (by simp; omega), e1]; simp
    · rw [cshs_map]
      intro x hx
      obtain ⟨y, hy, rfl⟩ := List.mem_map.1 hx
      rw [flat_sh]; exact h4 y hy
  | .agg xs, h, hp, hf => by
    simp only [Ok, Pl, fp] at h hp hf
    simpa only [csh, Ok, fp] using okL_sh hZ xs h hp hf
  | .fn f xs, h, hp, hf => by
    simp only [csh]
    refine ⟨h.congr (w' := w) hZ (fun _ _ => rfl) _ (fun _ _ => rfl), ?_⟩
    simp only [Ok] at h
    simpa only [fp] using h.1
  | .ip a x, h, hp, hf => by
    simp only [csh]
    exact ⟨h.congr (w' := w) hZ (fun _ _ => rfl) _ (fun _ _ => rfl), by simp [fp]⟩
  | .undef _, _, _, _ | .bool _, _, _, _ | .int _ _, _, _, _ | .str _, _, _, _ => by simp [csh, Ok, fp]
  | .tup _, _, hp, _ | .at _ _ _, _, hp, _ | .ref _ _ _ _ _, _, hp, _ | .box _ _ _, _, hp, _ => by simp [Pl] at hp
theorem okL_sh (hZ : ∀ b, Z b → Z' b) : ∀ xs : List CV, OkL w Z xs → PlL xs → (∀ b ∈ fps xs, Z' b) → OkL w Z' (cshs xs) ∧ fps (cshs xs) = []
  | [], _, _, _ => by simp [cshs, OkL, fps]
  | x :: xs, h, hp, hf => by
    simp only [OkL, PlL, fps, List.mem_append] at h hp hf
    obtain ⟨a1, a2⟩ := ok_sh hZ x h.1 hp.1 (fun b hb => hf b (.inl hb))
    obtain ⟨b1, b2⟩ := okL_sh hZ xs h.2 hp.2 (fun b hb => hf b (.inr hb))
    simp only [cshs, OkL, fps, a2, b2, List.append_nil]
    exact ⟨⟨a1, b1⟩, trivial⟩
end
end

mutual
/-- What a callee is shown of an operand. -/
def asnap (S : List AV) : AV → Option AV
  | .ref r p lo n => match aget S r p with
    | some (.lst true s xs) => some (.lst false s (((ashs xs).drop lo).take n))
    | _ => none
  | .at r p => match aget S r p with
    | some y => some (.ip (ash y))
    | none => none
  | .agg xs => match asnaps S xs with | some ys => some (.agg ys) | none => none
  | .fn f xs => match asnaps S xs with | some ys => some (.fn f ys) | none => none
  | .undef => none
  | .box _ => none
  | .tup _ => none
  | x => some x
def asnaps (S : List AV) : List AV → Option (List AV)
  | [] => some []
  | x :: xs => match asnap S x with | some y => (match asnaps S xs with | some ys => some (y :: ys) | none => none) | none => none
end

section
variable {K : Nat → Prop} {w0 : World} {Z : Nat → Prop} {Sc L : List CV} {a : Act} {w : World} {P : Program} {Γ : Tab}
def below (w : World) : Nat → Prop := fun b => b < w.heap.size
theorem Good.below (h : Good K w0 Z Sc L a w) : ∀ b, Z b → Bv.below w b := fun b hb => h.lt b (.inr hb)

theorem snap_ref (h : Good K w0 Z Sc L a w) {r : Nat} {p : List Nat} {lo n : Nat} {v : Value} (hr : RefOk Sc (.ref r p lo n v)) {y : AV} (hy : asnap (ers Sc) (.ref r p lo n) = some y) :
    ∃ c', er c' = y ∧ flat c' = [v] ∧ Ok w (Bv.below w) c' ∧ fp c' = [] ∧ Pl c' ∧ ¬ (∃ ys, c' = .agg ys) := by
  simp only [RefOk] at hr
  obtain ⟨x, s, A, c, xs, l, h1, h2, h3, h4, h5⟩ := hr
  have hg := er_cget (Sc := Sc) (r := r) (p := p) (l := l) (y := .lst true s A c xs) (by simp [cget, h1, h3])
  simp only [asnap, hg, er] at hy
  simp only [Option.some.injEq] at hy
  have hokx := ((okL_cut h1).1 ((okL_append _ _).1 h.ok).1).2.1
  have hoky : Ok w Z (.lst true s A c xs) := ok_get p _ _ _ l h3 (ok_root hokx).1
  have hply : Pl (.lst true s A c xs) := Pl.get p _ _ _ l h3 h2
  obtain ⟨A', c', rfl, hk', hf'⟩ := sub_ok hoky h4 h5
  have hpl' : Pl (.lst true s A' c' ((xs.drop lo).take n)) := by
    simp only [Pl] at hply ⊢
    rw [plL_iff] at hply ⊢
    exact fun u hu => hply u (List.mem_of_mem_drop (List.mem_of_mem_take hu))
  have hfps : ∀ b ∈ fp (.lst true s A c xs), Bv.below w b := by
    intro b hb
    have hnode : b ∈ fp x := by
      have hb2 : b ∈ fp (rootC x).1 := by
        obtain ⟨L1, R1, e1, _⟩ := fp_set p _ _ _ _ h3
        rw [e1]; simp [hb]
      cases x <;> simp_all [rootC, fp]
    exact h.lt b (.inl (by rw [fps_append, List.mem_append]; exact .inl (mem_fps.2 ⟨x, List.mem_of_getElem? h1, hnode⟩)))
  obtain ⟨q1, q2⟩ := ok_sh (Z' := Bv.below w) h.below _ hk' hpl' (fun b hb => hfps b (hf'.sub b hb))
  refine ⟨csh (.lst true s A' c' ((xs.drop lo).take n)), ?_, ?_, q1, q2, pl_sh _ hpl', by simp [csh]⟩
  · rw [er_sh, ← hy]
    simp only [er, ash, ers_eq, ashs_map, List.map_take, List.map_drop]
  · rw [flat_sh]
    simp only [flat]
    congr 2
    simp; omega

theorem snap_at (h : Good K w0 Z Sc L a w) {r : Nat} {p : List Nat} {ad : Addr} (hr : RefOk Sc (.at r p ad)) {y : AV} (hy : asnap (ers Sc) (.at r p) = some y) :
    ∃ c', er c' = y ∧ flat c' = [.pointer (some ad)] ∧ Ok w (Bv.below w) c' ∧ fp c' = [] ∧ Pl c' ∧ ¬ (∃ ys, c' = .agg ys) := by
  obtain ⟨x, z, h1, h2, h3, h4, h5, h6, h7, h8⟩ := h.node hr
  simp only [asnap, h8, Option.some.injEq] at hy
  have hokx := ((okL_cut h1).1 ((okL_append _ _).1 h.ok).1).2.1
  have hroot : ∀ b, b ∈ fp (rootC x).1 → Bv.below w b := by
    intro b hb
    have hnode : b ∈ fp x := by cases x <;> simp_all [rootC, fp]
    exact h.lt b (.inl (by rw [fps_append, List.mem_append]; exact .inl (mem_fps.2 ⟨x, List.mem_of_getElem? h1, hnode⟩)))
  have hfz : ∀ b ∈ fp z, Bv.below w b := by
    intro b hb
    obtain ⟨L1, R1, e1, _⟩ := fp_set p _ _ _ _ h3
    exact hroot b (by rw [e1]; simp [hb])
  have hloc := loc_get p _ _ z ad h3 (ok_root hokx).1 (fun b hb => by
    rcases root_cases h2 with ⟨b', ty, z', rfl, hz⟩ | ⟨hz, hrt, hcs⟩
    · simp only [rootC, Option.some.injEq] at hb ⊢
      subst hb
      simp only [Ok] at hokx
      exact ⟨rfl, _, ty, hokx.1, by simp⟩
    · rw [hrt] at hb; cases hb)
  obtain ⟨⟨cur, E, hb, _⟩, _⟩ := hloc
  have hblk : Bv.below w ad.block := by
    rcases Nat.lt_or_ge ad.block w.heap.size with hl | hl
    · exact hl
    · rw [Array.getElem?_eq_none hl] at hb; cases hb
  obtain ⟨q1, q2⟩ := ok_sh (Z' := Bv.below w) h.below _ h4 h5 hfz
  refine ⟨.ip ad (csh z), by rw [← hy, ← er_sh]; simp [er], by simp [flat], ?_, by simp [fp], by simp only [Pl]; exact pl_sh z h5, by simp⟩
  simp only [Ok]
  exact ⟨h6, hblk, by rw [flat_sh]; exact h7, q2, q1⟩

mutual
theorem snap_good (h : Good K w0 Z Sc L a w) : ∀ (x : CV), RefOk Sc x → Wf x → Ok w Z x → fp x = [] → ∀ (y : AV), asnap (ers Sc) (er x) = some y →
    ∃ c', er c' = y ∧ flat c' = flat x ∧ Ok w (Bv.below w) c' ∧ fp c' = [] ∧ Pl c' ∧ ((∃ ys, c' = .agg ys) ↔ (∃ ys, x = .agg ys))
  | .ref r p lo n v, hr, _, _, _, y, hy => by
    simp only [er] at hy
    obtain ⟨c', h1, h2, h3, h4, h5, h6⟩ := snap_ref h hr hy
    exact ⟨c', h1, by rw [h2]; simp [flat], h3, h4, h5, by simpa using h6⟩
  | .at r p ad, hr, _, _, _, y, hy => by
    simp only [er] at hy
    obtain ⟨c', h1, h2, h3, h4, h5, h6⟩ := snap_at h hr hy
    exact ⟨c', h1, by rw [h2]; simp [flat], h3, h4, h5, by simpa using h6⟩
  | .agg xs, hr, hw, hk, hf, y, hy => by
    simp only [RefOk, Wf, Ok, fp] at hr hw hk hf
    simp only [er, asnap] at hy
    split at hy
    · rename_i ys hys
      simp only [Option.some.injEq] at hy
      subst hy
      obtain ⟨cs, h1, h2, h3, h4, h5, _⟩ := snaps_good h xs hr hw hk hf ys hys
      exact ⟨.agg cs, by simp [er, h1], by simp [flat, h2], by simpa [Ok] using h3, by simpa [fp] using h4, by simpa [Pl] using h5, by simp⟩
    · cases hy
  | .fn f xs, hr, hw, hk, hf, y, hy => by
    simp only [RefOk, Wf, Ok, fp] at hr hw hk hf
    simp only [er, asnap] at hy
    split at hy
    · rename_i ys hys
      simp only [Option.some.injEq] at hy
      subst hy
      obtain ⟨cs, h1, h2, h3, h4, h5, _⟩ := snaps_good h xs hr hw hk.2 hf ys hys
      exact ⟨.fn f cs, by simp [er, h1], by simp [flat, h2], by simpa [Ok] using ⟨h4, h3⟩, by simpa [fp] using h4, by simpa [Pl] using h5, by simp⟩
    · cases hy
  | .lst o s A c xs, _, hw, hk, hf, y, hy => by
    simp only [er, asnap, Option.some.injEq] at hy
    exact ⟨.lst o s A c xs, by simp [er, hy], rfl, hk.congr (w' := w) h.below (fun _ _ => rfl) _ (fun _ _ => rfl), hf, by simpa only [Wf, Pl] using hw, Iff.rfl⟩
  | .ip b x, _, hw, hk, hf, y, hy => by
    simp only [er, asnap, Option.some.injEq] at hy
    exact ⟨.ip b x, by simp [er, hy], rfl, hk.congr (w' := w) h.below (fun _ _ => rfl) _ (fun _ _ => rfl), hf, by simpa only [Wf, Pl] using hw, Iff.rfl⟩
  | .bool b, _, _, _, _, y, hy => by
    simp only [er, asnap, Option.some.injEq] at hy
    exact ⟨.bool b, by simp [er, hy], rfl, by simp [Ok], by simp [fp], by simp [Pl], Iff.rfl⟩
  | .int k n, _, _, _, _, y, hy => by
    simp only [er, asnap, Option.some.injEq] at hy
    exact ⟨.int k n, by simp [er, hy], rfl, by simp [Ok], by simp [fp], by simp [Pl], Iff.rfl⟩
  | .str s, _, _, _, _, y, hy => by
    simp only [er, asnap, Option.some.injEq] at hy
    exact ⟨.str s, by simp [er, hy], rfl, by simp [Ok], by simp [fp], by simp [Pl], Iff.rfl⟩
  | .undef _, _, _, _, _, y, hy | .box _ _ _, _, _, _, _, y, hy | .tup _, _, _, _, _, y, hy => by simp [er, asnap] at hy
theorem snaps_good (h : Good K w0 Z Sc L a w) : ∀ (xs : List CV), RefOkL Sc xs → WfL xs → OkL w Z xs → fps xs = [] → ∀ (ys : List AV), asnaps (ers Sc) (ers xs) = some ys →
    ∃ cs, ers cs = ys ∧ flats cs = flats xs ∧ OkL w (Bv.below w) cs ∧ fps cs = [] ∧ PlL cs ∧ cs.map val1 = xs.map val1
  | [], _, _, _, _, ys, hy => by
    simp only [ers, asnaps, Option.some.injEq] at hy
    subst hy
    exact ⟨[], rfl, rfl, by simp [OkL], rfl, by simp [PlL], rfl⟩
  | x :: xs, hr, hw, hk, hf, ys, hy => by
    simp only [RefOkL, WfL, OkL, fps, List.append_eq_nil_iff] at hr hw hk hf
    simp only [ers, asnaps] at hy
    split at hy
    · rename_i y1 h1
      split at hy
      · rename_i ys1 h2
        simp only [Option.some.injEq] at hy
        subst hy
        obtain ⟨c, a1, a2, a3, a4, a5, a6⟩ := snap_good h x hr.1 hw.1 hk.1 hf.1 y1 h1
        obtain ⟨cs, b1, b2, b3, b4, b5, b6⟩ := snaps_good h xs hr.2 hw.2 hk.2 hf.2 ys1 h2
        refine ⟨c :: cs, by simp [ers, a1, b1], by simp [flats, a2, b2], by simp [OkL, a3, b3], by simp [fps, a4, b4], by simp [PlL, a5, b5], ?_⟩
        simp only [List.map_cons, b6, List.cons.injEq, and_true]
        by_cases hx : ∃ ys, x = .agg ys
        · obtain ⟨us, rfl⟩ := hx
          obtain ⟨vs, rfl⟩ := a6.2 ⟨us, rfl⟩
          simpa [val1, flat] using a2
        · have hc : ¬ ∃ ys, c = .agg ys := fun e => hx (a6.1 e)
          have e1 := flat_one (x := x) (fun q e => hx ⟨q, e⟩)
          have e2 := flat_one (x := c) (fun q e => hc ⟨q, e⟩)
          rw [e1, e2] at a2
          simpa using a2
      · cases hy
    · cases hy
end
end
end Go.Bv
