/- Lists that a function made, frozen: what they hold turns no more. Generic: no program. -/
import Derived.Test.YtffpfjnakhpheaaDoorBvM5
namespace Go.Bv
open Go Go.RowKit
set_option linter.unusedSimpArgs false
set_option linter.unusedVariables false
mutual
def frz : AV → AV
  | .lst _ s xs => .lst false s (frzs xs)
  | .agg xs => .agg (frzs xs)
  | x => x
def frzs : List AV → List AV
  | [] => []
  | x :: xs => frz x :: frzs xs
end
mutual
def cfrz : CV → CV
  | .lst _ s A c xs => .lst false s A c (cfrzs xs)
  | .agg xs => .agg (cfrzs xs)
  | x => x
def cfrzs : List CV → List CV
  | [] => []
  | x :: xs => cfrz x :: cfrzs xs
end
theorem cfrzs_len (xs : List CV) : (cfrzs xs).length = xs.length := by induction xs <;> simp [cfrzs, *]
mutual
theorem er_frz : ∀ x : CV, er (cfrz x) = frz (er x)
  | .lst _ _ _ _ xs => by simp only [cfrz, er, frz, ers_frz xs]
  | .agg xs => by simp only [cfrz, er, frz, ers_frz xs]
  | .undef _ | .bool _ | .int _ _ | .str _ | .tup _ | .fn _ _ | .ip _ _ | .at _ _ _ | .ref _ _ _ _ _ | .box _ _ _ => by simp [cfrz, er, frz]
theorem ers_frz : ∀ xs : List CV, ers (cfrzs xs) = frzs (ers xs)
  | [] => rfl
  | x :: xs => by simp only [cfrzs, ers, frzs, er_frz x, ers_frz xs]
end
mutual
theorem flat_frz : ∀ x : CV, flat (cfrz x) = flat x
  | .lst _ _ _ _ xs => by simp only [cfrz, flat, cfrzs_len]
  | .agg xs => by simp only [cfrz, flat, flats_frz xs]
  | .undef _ | .bool _ | .int _ _ | .str _ | .tup _ | .fn _ _ | .ip _ _ | .at _ _ _ | .ref _ _ _ _ _ | .box _ _ _ => by simp [cfrz]
theorem flats_frz : ∀ xs : List CV, flats (cfrzs xs) = flats xs
  | [] => rfl
  | x :: xs => by simp only [cfrzs, flats, flat_frz x, flats_frz xs]
end
mutual
theorem pl_frz : ∀ x : CV, Pl x → Pl (cfrz x)
  | .lst _ _ _ _ xs, h => by simp only [cfrz, Pl] at h ⊢; exact plL_frz xs h
  | .agg xs, h => by simp only [cfrz, Pl] at h ⊢; exact plL_frz xs h
  | .undef _, h | .bool _, h | .int _ _, h | .str _, h | .tup _, h | .fn _ _, h | .ip _ _, h | .at _ _ _, h | .ref _ _ _ _ _, h | .box _ _ _, h => by simpa only [cfrz] using h
theorem plL_frz : ∀ xs : List CV, PlL xs → PlL (cfrzs xs)
  | [], _ => by simp [cfrzs, PlL]
  | x :: xs, h => by simp only [PlL, cfrzs] at h ⊢; exact ⟨pl_frz x h.1, plL_frz xs h.2⟩
end
mutual
theorem fp_frz {w : World} {Z : Nat → Prop} : ∀ x : CV, Pl x → Ok w Z x → fp (cfrz x) = []
  | .lst _ _ _ _ xs, h, hk => by simp only [Pl] at h; simp only [Ok] at hk; simp [cfrz, fp, fps_frz xs h hk.2.2.2]
  | .agg xs, h, hk => by simp only [Pl] at h; simp only [Ok] at hk; simp [cfrz, fp, fps_frz xs h hk]
  | .fn _ xs, _, hk => by simp only [Ok] at hk; simp [cfrz, fp, hk.1]
  | .undef _, _, _ | .bool _, _, _ | .int _ _, _, _ | .str _, _, _ | .ip _ _, _, _ => by simp [cfrz, fp]
  | .tup _, h, _ | .at _ _ _, h, _ | .ref _ _ _ _ _, h, _ | .box _ _ _, h, _ => by simp [Pl] at h
theorem fps_frz {w : World} {Z : Nat → Prop} : ∀ xs : List CV, PlL xs → OkL w Z xs → fps (cfrzs xs) = []
  | [], _, _ => rfl
  | x :: xs, h, hk => by simp only [PlL] at h; simp only [OkL] at hk; simp [cfrzs, fps, fp_frz x h.1 hk.1, fps_frz xs h.2 hk.2]
end
mutual
theorem ok_frz {w : World} {Z Z' : Nat → Prop} (hZ : ∀ b, Z b → Z' b) : ∀ x : CV, Pl x → Ok w Z x → (∀ b ∈ fp x, Z' b) → Ok w Z' (cfrz x)
  | .lst o s A c xs, h, hk, hf => by
    simp only [Pl] at h
    have hk0 := hk
    simp only [Ok] at hk
    obtain ⟨⟨h1, h2, h3⟩, h4, h5, h6⟩ := hk
    simp only [fp, List.mem_append] at hf
    simp only [cfrz, Ok]
    refine ⟨⟨by rw [cfrzs_len]; exact h1, ?_, by simp⟩, ?_, fun _ => fps_frz xs h h6, okL_frz hZ xs h h6 fun b hb => hf b (.inr hb)⟩
    · rw [cfrzs_len, flats_frz]
      rcases h2 with h2 | ⟨a, q1, q2, q3, q4⟩
      · exact .inl h2
      · by_cases hn : xs.length = 0
        · exact .inl hn
        · refine .inr ⟨a, q1, q2, q3, fun _ => ?_⟩
          cases ho : o
          · exact hZ _ (q4 ho)
          · refine hf _ (.inl ?_)
            subst q1
            rw [if_neg (by simp [ho]; omega)]
            simp
    · exact frz_len xs h4
  | .agg xs, h, hk, hf => by
    simp only [Pl] at h
    simp only [Ok] at hk
    simp only [cfrz, Ok]
    exact okL_frz hZ xs h hk (by simpa only [fp] using hf)
  | .fn f xs, h, hk, hf => by
    have := Ok.congr (w' := w) (Z' := Z') hZ (fun _ _ => rfl) (.fn f xs) (fun _ _ => rfl) hk
    simpa only [cfrz] using this
  | .ip a x, h, hk, hf => by
    have := Ok.congr (w' := w) (Z' := Z') hZ (fun _ _ => rfl) (.ip a x) (fun _ _ => rfl) hk
    simpa only [cfrz] using this
  | .undef _, _, _, _ | .bool _, _, _, _ | .int _ _, _, _, _ | .str _, _, _, _ => by simp [cfrz, Ok]
  | .tup _, h, _, _ | .at _ _ _, h, _, _ | .ref _ _ _ _ _, h, _, _ | .box _ _ _, h, _, _ => by simp [Pl] at h
theorem okL_frz {w : World} {Z Z' : Nat → Prop} (hZ : ∀ b, Z b → Z' b) : ∀ xs : List CV, PlL xs → OkL w Z xs → (∀ b ∈ fps xs, Z' b) → OkL w Z' (cfrzs xs)
  | [], _, _, _ => by simp [cfrzs, OkL]
  | x :: xs, h, hk, hf => by
    simp only [PlL] at h
    simp only [OkL] at hk
    simp only [fps, List.mem_append] at hf
    simp only [cfrzs, OkL]
    exact ⟨ok_frz hZ x h.1 hk.1 fun b hb => hf b (.inl hb), okL_frz hZ xs h.2 hk.2 fun b hb => hf b (.inr hb)⟩
theorem frz_len {s : Nat} : ∀ xs : List CV, (∀ x ∈ xs, (flat x).length = s) → ∀ x ∈ cfrzs xs, (flat x).length = s
  | [], _, _, h => by simp [cfrzs] at h
  | y :: xs, h, x, hx => by
    simp only [cfrzs, List.mem_cons] at hx
    rcases hx with rfl | hx
    · rw [flat_frz]; exact h y (List.mem_cons_self ..)
    · exact frz_len xs (fun z hz => h z (List.mem_cons_of_mem _ hz)) x hx
end
mutual
def noOwnA : AV → Bool
  | .lst o _ _ => !o
  | .agg xs => noOwnAs xs
  | .int _ _ | .bool _ | .str _ => true
  | _ => false
def noOwnAs : List AV → Bool
  | [] => true
  | x :: xs => noOwnA x && noOwnAs xs
end
mutual
theorem noOwnA_er : ∀ x : CV, noOwnA (er x) = true → NoOwn x
  | .lst o _ _ _ _, h => by simpa [er, noOwnA, NoOwn] using h
  | .agg xs, h => by simp only [er, noOwnA, NoOwn] at h ⊢; exact noOwnAs_er xs h
  | .int _ _, _ | .bool _, _ | .str _, _ => by simp [NoOwn]
  | .undef _, h | .tup _, h | .fn _ _, h | .ip _ _, h | .at _ _ _, h | .ref _ _ _ _ _, h | .box _ _ _, h => by simp [er, noOwnA] at h
theorem noOwnAs_er : ∀ xs : List CV, noOwnAs (ers xs) = true → NoOwnL xs
  | [], _ => by simp [NoOwnL]
  | x :: xs, h => by
    simp only [ers, noOwnAs, Bool.and_eq_true] at h
    exact ⟨noOwnA_er x h.1, noOwnAs_er xs h.2⟩
end
/-- Code of a function that was handed nothing of its own. -/
def AWf (P : Program) (c : Code) (S : List AV) (Q : Exit → List AV → Prop) : Prop :=
  ∀ (K : Kp P) w0 Z0 a w, (∀ b, b < w0.heap.size → K.b b) → K.frees c → At K w0 Z0 S a w → c.wp P (fun e a' w' => ∃ S', Q e S' ∧ At K w0 Z0 S' a' w') a w
section
variable {P : Program} {Γ : Tab} {S S' : List AV} {Q : Exit → List AV → Prop}
theorem awf_aw {c : Code} (h : AW P c S Q) : AWf P c S Q := fun K w0 Z0 a w _ hF hA => h K w0 Z0 a w hF hA
theorem awf_seq {x y : Code} (h : AW P x S (thenA (fun S' => AWf P y S' Q) Q)) : AWf P (.seq x y) S Q := fun K w0 Z0 a w hK hF hA =>
  wp_seq (wp_mono (h K w0 Z0 a w hF.1 hA) fun e a' w' ⟨S', q, hS⟩ => by
    cases e with
    | normal => exact q K w0 Z0 a' w' hK hF.2 hS
    | _ => exact ⟨S', q, hS⟩)
theorem sound_bodyF (hT : TabOk P Γ) {f : Nat} {fn : Func} {c : Code} (hf : P.funcs[f]? = some fn) (hb : fn.body = some c) {args : List AV} {r : AV} (hno : noOwnAs args = true)
    (hw : AWf P c (frame args fn.ntmps) (endsA Γ fn.results.toList r)) : Sound P f args r := by
  intro w Z0 cs hcs hok hnd hap hlt hpl hgw
  subst hcs
  have hl : (ers cs).length = cs.length := by simp [ers_eq]
  refine calls_of_wp hf hb ?_
  have hA : At (P := P) ⟨fun b => b < w.heap.size ∧ b ∉ fps cs, fun _ => none⟩ w Z0 (frame (ers cs) fn.ntmps) { tmps := (cs.map val).toArray ++ Array.replicate (fn.ntmps - (cs.map val).toArray.size) undef, defers := [] } w := by
    refine ⟨⟨Z0, cs ++ List.replicate (fn.ntmps - cs.length) (.undef undef), fun b h => h, fun b h => .inl h, by rw [ers_append, ers_undef, frame, hl], ?_⟩, ⟨(fun _ _ h => by cases h), hgw⟩⟩
    have ef : fps ((cs ++ List.replicate (fn.ntmps - cs.length) (.undef undef)) ++ []) = fps cs := by simp [fps_append, fps_undef]
    refine { defers := rfl, size := by simp, tmps := fun t ht => ?_, ok := ?_, nodup := by rw [ef]; exact hnd, apart := by rw [ef]; exact hap, lt := fun b hb' => ?_, refs := fun x hx => ?_, wf := fun x hx => ?_, sorted := fun x hx => ?_, nr := by simp,
             kept := fun b hk => ⟨hk.1, by rw [ef]; exact hk.2, rfl⟩, os := rfl, tape := rfl, output := rfl, grew := Nat.le_refl _ }
    · simp only [Array.getElem?_append, List.size_toArray, List.length_map, List.getElem?_append]
      split
      · simp
      · rename_i hge
        have ht' : t < cs.length + (fn.ntmps - cs.length) := by simpa using ht
        simp only [List.getElem?_replicate, Array.getElem?_replicate]
        have : t - cs.length < fn.ntmps - cs.length := by omega
        simp [this, val, val1, flat]
    · rw [List.append_nil, okL_append]
      refine ⟨hok, (okL_iff _).2 fun x hx => ?_⟩
      rw [List.eq_of_mem_replicate hx]; simp [Ok]
    · rw [ef] at hb'; exact hlt b hb'
    · rcases List.mem_append.1 hx with hx | hx
      · exact Pl.refOk _ ((plL_iff _).1 hpl x hx)
      · rw [List.eq_of_mem_replicate hx]; simp [RefOk]
    · rcases List.mem_append.1 hx with hx | hx
      · exact Pl.wf _ ((plL_iff _).1 hpl x hx)
      · rw [List.eq_of_mem_replicate hx]; simp [Wf]
    · rcases List.mem_append.1 hx with hx | hx
      · exact .inl ((plL_iff _).1 hpl x hx).nr
      · rw [List.eq_of_mem_replicate hx]; exact .inr (by simp [NoOwn])
  have hfin : ∀ S' a' w', At (P := P) ⟨fun b => b < w.heap.size ∧ b ∉ fps cs, fun _ => none⟩ w Z0 S' a' w' → ares Γ fn.results.toList S' = some r →
      a'.defers = [] ∧ ∃ v, (results fn a'.tmps).run P w' = .ok v w' ∧ ∃ c, Ending.returned v = .returned (val c) ∧ er c = r ∧ Res Z0 (fps cs) w w' c := by
    intro S' a' w' hA' hr
    obtain ⟨⟨Z, Sc, z1, z2, rfl, hG⟩, _⟩ := hA'
    refine ⟨hG.defers, ?_⟩
    unfold ares at hr
    cases hL : aresL Γ fn.results.toList (ers Sc) with
    | none => simp [hL] at hr
    | some q =>
      obtain ⟨vs, S2⟩ := q
      obtain ⟨ys, Sc', e1, e2, hG2, hpl2, hrun⟩ := aresL_good hT _ hG hL
      have hrr := run_results hrun
      have hfps : ∀ b ∈ fps ys, b ∈ fps (Sc' ++ (ys ++ [])) := fun b hb => by simp [fps_append, hb]
      have hndy : (fps ys).Nodup := by
        have := hG2.nodup
        simp only [fps_append, List.append_nil] at this
        exact (List.nodup_append.1 this).2.1
      have hokL : OkL w' Z ys := by
        have := (okL_append _ _).1 ((okL_append _ _).1 hG2.ok).2
        exact this.1
      have hown : ∀ b ∈ fps ys, (b ∈ fps cs ∨ w.heap.size ≤ b) ∧ b < w'.heap.size := fun b hb => by
        refine ⟨?_, hG2.lt b (.inl (hfps b hb))⟩
        by_cases hk : b < w.heap.size
        · by_cases hm : b ∈ fps cs
          · exact .inl hm
          · exact absurd (hfps b hb) (hG2.kept b ⟨hk, hm⟩).2.1
        · exact .inr (by omega)
      have hz2 : ∀ b, Z b → (Z0 b ∨ w.heap.size ≤ b) ∧ b < w'.heap.size := fun b hb => ⟨z2 b hb, hG2.lt b (.inr hb)⟩
      have hsame : ∀ b, b < w.heap.size → b ∉ fps cs → w'.heap[b]? = w.heap[b]? := fun b h1 h2 => (hG2.kept b ⟨h1, h2⟩).2.2
      have hapy : ∀ b ∈ fps ys, ¬ Z b := fun b hb => hG2.apart b (hfps b hb)
      rw [hL] at hr
      by_cases h1 : ∃ y, ys = [y]
      · obtain ⟨y, rfl⟩ := h1
        have hv : vs = [er y] := by rw [← e1]; simp [ers]
        subst hv
        simp only [Option.some.injEq] at hr
        have hply : Pl y := by simpa [PlL] using hpl2
        refine ⟨_, hrr, y, ?_, hr, ?_⟩
        · simp [resVal, val_of_val1 hply.not_tup]
        · simp only [fps, List.append_nil] at hndy hown hapy
          exact ⟨⟨Z, z1, hz2, by simpa [OkL] using hokL, hapy⟩, hply.nr, hndy, hown, hsame, hG2.grew, hG2.os, hG2.tape, hG2.output⟩
      · have hv : r = .tup vs := by
          match vs, ys, e1, hr with
          | [], [], _, hr => simp at hr; exact hr.symm
          | [_], [y], _, _ => exact absurd ⟨y, rfl⟩ h1
          | _ :: _ :: _, _ :: _ :: _, _, hr => simp at hr; exact hr.symm
        have hrv : resVal (ys.map val1) = Value.tuple (ys.map val1).toArray := by
          match ys with
          | [] => rfl
          | [y] => exact absurd ⟨y, rfl⟩ h1
          | _ :: _ :: _ => rfl
        refine ⟨_, hrr, .tup ys, ?_, by rw [hv, ← e1]; simp [er], ?_⟩
        · rw [hrv]; simp [val]
        · refine ⟨⟨Z, z1, hz2, by simpa [Ok] using hokL, by simpa [fp] using hapy⟩, ?_, by simpa [fp] using hndy, by simpa [fp] using hown, hsame, hG2.grew, hG2.os, hG2.tape, hG2.output⟩
          simp only [NR]
          intro u hu
          exact .inr ((plL_iff _).1 hpl2 u hu)
  have hfp0 : fps cs = [] := NoOwnL.fp cs (noOwnAs_er cs hno) hok
  refine wp_mono (hw ⟨fun b => b < w.heap.size ∧ b ∉ fps cs, fun _ => none⟩ w Z0 _ _ (fun b hb => ⟨hb, by rw [hfp0]; simp⟩) (Kp.frees_none _ _) hA) fun e a' w' ⟨S', q, hS'⟩ => ?_
  cases e with
  | normal => exact hfin S' a' w' hS' q
  | ret => exact hfin S' a' w' hS' q
  | _ => exact q.elim
/-- The lists in a box, frozen. -/
theorem awf_freeze {c : Code} (r : Nat) {z : AV} (hx : S[r]? = some (.box z)) (hS : asetc S r [] (frz z) = S') (h : AWf P c S' Q) : AWf P c S Q := fun K w0 Z0 a w hK hF hA => by
  refine h K w0 Z0 a w hK hF ?_
  obtain ⟨⟨Z, Sc, z1, z2, rfl, hG⟩, hfx⟩ := hA
  rw [ers_eq, List.getElem?_map, Option.map_eq_some_iff] at hx
  obtain ⟨y, hy, ey⟩ := hx
  cases y <;> simp only [er] at ey <;> try (cases ey; done)
  rename_i b ty zc
  simp only [AV.box.injEq] at ey
  subst ey
  have hpl : Pl zc := by
    rcases hG.sorted _ (List.mem_of_getElem? hy) with h | h
    · exact h
    · simp [NoOwn] at h
  have hokS := (okL_append _ _).1 hG.ok
  have hokb := ((okL_cut hy).1 hokS.1).2.1
  simp only [Ok] at hokb
  have hfp : fp (cfrz zc) = [] := fp_frz zc hpl hokb.2
  have hin : ∀ k ∈ fp (.box b ty zc), k ∈ fps (Sc ++ []) := fun k hk => by
    rw [List.append_nil]; exact mem_fps.2 ⟨_, List.mem_of_getElem? hy, hk⟩
  have hin2 : ∀ k ∈ fp zc, k ∈ fps (Sc ++ []) := fun k hk => hin k (by simp [fp, hk])
  have hZ : ∀ k, Z k → (Z k ∨ k ∈ fp zc) := fun k hk => .inl hk
  have hokz : Ok w (fun k => Z k ∨ k ∈ fp zc) (cfrz zc) := ok_frz hZ zc hpl hokb.2 fun k hk => .inr hk
  have hpz := pl_frz zc hpl
  have hslot := cset_slot (p := []) (y := cfrz zc) hy (by simpa only [rootC] using hpl) hpz
  have hrl := (List.getElem?_eq_some_iff.1 hy).1
  have hlist : csetc Sc r [] (cfrz zc) = (cclr r [] Sc).set r (.box b ty (cfrz zc)) := by
    apply List.ext_getElem?
    intro t
    rw [hslot]
    by_cases e : t = r
    · subst e; simp [cclr, hrl, csetR, csetN]
    · rw [if_neg e, List.getElem?_set_ne (Ne.symm e)]; simp [cclr]
  have hcx : (cclr r [] Sc)[r]? = some (.box b ty zc) := by simp [cclr, hy, Bv.hit]
  have hnew : fps (csetc Sc r [] (cfrz zc)) = fps ((cclr r [] Sc).take r) ++ (b :: fps ((cclr r [] Sc).drop (r + 1))) := by
    rw [hlist, set_at _ hcx, fps_append]
    simp [fps, fp, hfp]
  have hold : fps Sc = fps (Sc.take r) ++ ((b :: fp zc) ++ fps (Sc.drop (r + 1))) := by
    rw [fps_cut hy]; simp [fp]
  have hsubl : ∀ xs : List CV, (fps (cclr r [] xs)).Sublist (fps xs) := by
    intro xs
    induction xs with
    | nil => simp [cclr, fps]
    | cons x xs ih =>
      simp only [cclr, List.map_cons, fps] at ih ⊢
      refine List.Sublist.append ?_ ih
      split
      · simp [fp]
      · exact List.Sublist.refl _
  have hs1 : (fps ((cclr r [] Sc).take r)).Sublist (fps (Sc.take r)) := by
    have := hsubl (Sc.take r); simpa [cclr, List.map_take] using this
  have hs2 : (fps ((cclr r [] Sc).drop (r + 1))).Sublist (fps (Sc.drop (r + 1))) := by
    have := hsubl (Sc.drop (r + 1)); simpa [cclr, List.map_drop] using this
  have hsub : (fps (csetc Sc r [] (cfrz zc))).Sublist (fps Sc) := by
    rw [hnew, hold]
    exact List.Sublist.append hs1 (List.Sublist.cons_cons _ (List.Sublist.trans hs2 (List.sublist_append_right _ _)))
  have hnd : (fps Sc).Nodup := by have := hG.nodup; rwa [List.append_nil] at this
  have hdis : ∀ k ∈ fps (csetc Sc r [] (cfrz zc)), k ∉ fp zc := by
    intro k hk hz
    rw [hold] at hnd
    rw [hnew] at hk
    have n1 := List.nodup_append.1 hnd
    have n2 := List.nodup_append.1 n1.2.1
    rcases List.mem_append.1 hk with hk | hk
    · exact n1.2.2 k (hs1.subset hk) k (by simp [hz]) rfl
    · rcases List.mem_cons.1 hk with rfl | hk
      · exact (List.nodup_cons.1 n2.1).1 hz
      · exact n2.2.2 k (by simp [hz]) k (hs2.subset hk) rfl
  have hget : ∀ u ∈ csetc Sc r [] (cfrz zc), u = .box b ty (cfrz zc) ∨ ∃ v ∈ Sc, (hit r [] v = true ∧ u = .undef (val v)) ∨ (hit r [] v = false ∧ u = v) := by
    intro u hu
    obtain ⟨t, ht⟩ := List.getElem?_of_mem hu
    rw [hslot] at ht
    split at ht
    · simp only [Option.some.injEq] at ht
      exact .inl (by rw [← ht]; rfl)
    · rw [Option.map_eq_some_iff] at ht
      obtain ⟨v, hv, rfl⟩ := ht
      refine .inr ⟨v, List.mem_of_getElem? hv, ?_⟩
      cases hh : hit r [] v
      · exact .inr ⟨rfl, by simp⟩
      · exact .inl ⟨rfl, by simp⟩
  refine ⟨⟨fun k => Z k ∨ k ∈ fp zc, csetc Sc r [] (cfrz zc), fun k hk => .inl (z1 k hk), fun k hk => ?_, by rw [er_csetc, er_frz, hS], ?_⟩, hfx⟩
  · rcases hk with hk | hk
    · exact z2 k hk
    · by_cases hlt : k < w0.heap.size
      · exact absurd (hin2 k hk) (hG.kept k (hK k hlt)).2.1
      · exact .inr (by omega)
  · refine { defers := hG.defers, size := by rw [hlist]; simpa [cclr] using hG.size, tmps := fun t ht => ?_, ok := ?_, nodup := by rw [List.append_nil]; exact hsub.nodup hnd, apart := fun k hk => ?_, lt := fun k hk => ?_, refs := fun u hu => ?_, wf := fun u hu => ?_, sorted := fun u hu => ?_, nr := by simp,
             kept := fun k hk => ⟨(hG.kept k hk).1, fun hm => (hG.kept k hk).2.1 (by rw [List.append_nil] at hm ⊢; exact hsub.subset hm), (hG.kept k hk).2.2⟩, os := hG.os, tape := hG.tape, output := hG.output, grew := hG.grew }
    · rw [hG.tmps t ht, hslot]
      split
      · rename_i e; subst e; rw [hy]; simp [csetR, csetN, val, val1, flat]
      · simp only [Option.map_map]
        congr 1; funext x
        simp only [Function.comp]
        split
        · exact (val_undef _).symm
        · rfl
    · rw [List.append_nil, okL_iff]
      intro u hu
      rcases hget u hu with rfl | ⟨v, hv, ⟨_, rfl⟩ | ⟨_, rfl⟩⟩
      · simp only [Ok]
        exact ⟨by rw [flat_frz]; exact hokb.1, hokz⟩
      · simp [Ok]
      · exact Ok.congr hZ (fun _ _ => rfl) _ (fun _ _ => rfl) ((okL_iff _).1 hokS.1 _ hv)
    · rw [List.append_nil] at hk
      rintro (hz | hz)
      · exact hG.apart k (by rw [List.append_nil]; exact hsub.subset hk) hz
      · exact hdis k hk hz
    · rw [List.append_nil] at hk
      rcases hk with hk | hk | hk
      · exact hG.lt k (.inl (by rw [List.append_nil]; exact hsub.subset hk))
      · exact hG.lt k (.inr hk)
      · exact hG.lt k (.inl (hin2 k hk))
    · rcases hget u hu with rfl | ⟨v, hv, ⟨_, rfl⟩ | ⟨hh, rfl⟩⟩
      · simp [RefOk]
      · simp [RefOk]
      · exact RefOk.set hy (by simpa only [rootC] using hpl) hpz (y0 := zc) (l0 := some ⟨b, 0, none⟩) (by simp [rootC, cgetN]) (by rw [flat_frz]) _ hh (hG.refs _ hv)
    · rcases hget u hu with rfl | ⟨v, hv, ⟨_, rfl⟩ | ⟨_, rfl⟩⟩
      · simpa only [Wf] using hpz
      · simp [Wf]
      · exact hG.wf _ hv
    · rcases hget u hu with rfl | ⟨v, hv, ⟨_, rfl⟩ | ⟨_, rfl⟩⟩
      · exact .inl (by simpa only [NR] using hpz)
      · exact .inr (by simp [NoOwn])
      · exact hG.sorted _ hv
theorem snd_f (hT : TabOk P Γ) {f n : Nat} {fn : Func} {c : Code} {args fr : List AV} {r : AV} {rs : Array ResultVar} (hf : P.funcs[f]? = some fn) (hr : fn.results = rs) (hn : fn.ntmps = n) (h : AWf P c fr (endsA Γ rs.toList r)) (hno : noOwnAs args = true := by simp only [go_sem, noOwnAs, noOwnA, Bool.not_false, Bool.and_self]; first | done | fail) (hb : fn.body = some c := by rfl)
    (hfr : frame args n = fr := by simp only [frame, List.length_cons, List.length_nil, List.replicate, List.cons_append, List.nil_append, Nat.reduceAdd, Nat.reduceSub]; first | done | with_reducible rfl | fail) : Sound P f args r := by
  subst hr hn hfr; exact sound_bodyF hT hf hb hno h
end
end Go.Bv
