/- A function's contract out of its body. Generic: no program. -/
import Derived.Test.YtjmodjanaeoiiaaBvW
namespace Go.Bv
open Go Go.RowKit
set_option linter.unusedSimpArgs false
set_option linter.unusedVariables false
section
variable {P : Program} {Γ : Tab}

theorem ers_undef (n : Nat) : ers (List.replicate n (.undef undef)) = List.replicate n .undef := by simp [ers_eq, er]
theorem fps_undef (n : Nat) : fps (List.replicate n (.undef undef)) = [] := fps_rep n _ (by simp [fp])

def frame (args : List AV) (n : Nat) : List AV := args ++ List.replicate (n - args.length) .undef
/-- Where a body may end: with these results. -/
def endsA (Γ : Tab) (rs : List ResultVar) (r : AV) : Exit → List AV → Prop
  | .ret, S | .normal, S => ares Γ rs S = some r
  | _, _ => False

theorem sound_body (hT : TabOk P Γ) {f : Nat} {fn : Func} {c : Code} (hf : P.funcs[f]? = some fn) (hb : fn.body = some c) {args : List AV} {r : AV}
    (hw : AW P c (frame args fn.ntmps) (endsA Γ fn.results.toList r)) : Sound P f args r := by
  intro w Z0 cs hcs hok hnd hap hlt hpl
  subst hcs
  have hl : (ers cs).length = cs.length := by simp [ers_eq]
  refine calls_of_wp hf hb ?_
  have hA : At ⟨fun b => b < w.heap.size ∧ b ∉ fps cs, fun _ => none⟩ w Z0 (frame (ers cs) fn.ntmps) { tmps := (cs.map val).toArray ++ Array.replicate (fn.ntmps - (cs.map val).toArray.size) undef, defers := [] } w := by
    refine ⟨⟨Z0, cs ++ List.replicate (fn.ntmps - cs.length) (.undef undef), fun b h => h, fun b h => .inl h, by rw [ers_append, ers_undef, frame, hl], ?_⟩, fun _ _ h => by cases h⟩
    have ef : fps ((cs ++ List.replicate (fn.ntmps - cs.length) (.undef undef)) ++ []) = fps cs := by simp [fps_append, fps_undef]
    refine { defers := rfl, size := by simp, tmps := fun t ht => ?_, ok := ?_, nodup := by rw [ef]; exact hnd, apart := by rw [ef]; exact hap, lt := fun b hb' => ?_, refs := fun x hx => ?_, wf := fun x hx => ?_, sorted := fun x hx => ?_, nr := by simp,
             kept := fun b hk => ⟨hk.1, by rw [ef]; exact hk.2, rfl⟩, os := rfl, tape := rfl, output := rfl, grew := Nat.le_refl _ }
    · simp only [Array.getElem?_append, List.size_toArray, List.length_map, List.getElem?_append]
      split
      · simp
      · rename_i hge
        have ht' : t < cs.length + (fn.ntmps - cs.length) := by simpa using ht
        simp only [List.getElem?_replicate, Array.getElem?_replicate]
        have : t - cs.length < fn.ntmps - cs.length := by omega
        simp [this, val, val1, flat]
    · rw [List.append_nil, okL_append]
      refine ⟨hok, (okL_iff _).2 fun x hx => ?_⟩
      rw [List.eq_of_mem_replicate hx]; simp [Ok]
    · rw [ef] at hb'; exact hlt b hb'
    · rcases List.mem_append.1 hx with hx | hx
      · exact Pl.refOk _ ((plL_iff _).1 hpl x hx)
      · rw [List.eq_of_mem_replicate hx]; simp [RefOk]
    · rcases List.mem_append.1 hx with hx | hx
      · exact Pl.wf _ ((plL_iff _).1 hpl x hx)
      · rw [List.eq_of_mem_replicate hx]; simp [Wf]
    · rcases List.mem_append.1 hx with hx | hx
      · exact .inl ((plL_iff _).1 hpl x hx).nr
      · rw [List.eq_of_mem_replicate hx]; exact .inr (by simp [NoOwn])
  have hfin : ∀ S' a' w', At ⟨fun b => b < w.heap.size ∧ b ∉ fps cs, fun _ => none⟩ w Z0 S' a' w' → ares Γ fn.results.toList S' = some r →
      a'.defers = [] ∧ ∃ v, (results fn a'.tmps).run P w' = .ok v w' ∧ ∃ c, Ending.returned v = .returned (val c) ∧ er c = r ∧ Res Z0 (fps cs) w w' c := by
    intro S' a' w' hA' hr
    obtain ⟨⟨Z, Sc, z1, z2, rfl, hG⟩, _⟩ := hA'
    refine ⟨hG.defers, ?_⟩
    unfold ares at hr
    cases hL : aresL Γ fn.results.toList (ers Sc) with
    | none => simp [hL] at hr
    | some q =>
      obtain ⟨vs, S2⟩ := q
      obtain ⟨ys, Sc', e1, e2, hG2, hpl2, hrun⟩ := aresL_good hT _ hG hL
      have hrr := run_results hrun
      have hfps : ∀ b ∈ fps ys, b ∈ fps (Sc' ++ (ys ++ [])) := fun b hb => by simp [fps_append, hb]
      have hndy : (fps ys).Nodup := by
        have := hG2.nodup
        simp only [fps_append, List.append_nil] at this
        exact (List.nodup_append.1 this).2.1
      have hokL : OkL w' Z ys := by
        have := (okL_append _ _).1 ((okL_append _ _).1 hG2.ok).2
        exact this.1
      have hown : ∀ b ∈ fps ys, (b ∈ fps cs ∨ w.heap.size ≤ b) ∧ b < w'.heap.size := fun b hb => by
        refine ⟨?_, hG2.lt b (.inl (hfps b hb))⟩
        by_cases hk : b < w.heap.size
        · by_cases hm : b ∈ fps cs
          · exact .inl hm
          · exact absurd (hfps b hb) (hG2.kept b ⟨hk, hm⟩).2.1
        · exact .inr (by omega)
      have hz2 : ∀ b, Z b → (Z0 b ∨ w.heap.size ≤ b) ∧ b < w'.heap.size := fun b hb => ⟨z2 b hb, hG2.lt b (.inr hb)⟩
      have hsame : ∀ b, b < w.heap.size → b ∉ fps cs → w'.heap[b]? = w.heap[b]? := fun b h1 h2 => (hG2.kept b ⟨h1, h2⟩).2.2
      have hapy : ∀ b ∈ fps ys, ¬ Z b := fun b hb => hG2.apart b (hfps b hb)
      rw [hL] at hr
      by_cases h1 : ∃ y, ys = [y]
      · obtain ⟨y, rfl⟩ := h1
        have hv : vs = [er y] := by rw [← e1]; simp [ers]
        subst hv
        simp only [Option.some.injEq] at hr
        have hply : Pl y := by simpa [PlL] using hpl2
        refine ⟨_, hrr, y, ?_, hr, ?_⟩
        · simp [resVal, val_of_val1 hply.not_tup]
        · simp only [fps, List.append_nil] at hndy hown hapy
          exact ⟨⟨Z, z1, hz2, by simpa [OkL] using hokL, hapy⟩, hply.nr, hndy, hown, hsame, hG2.grew, hG2.os, hG2.tape, hG2.output⟩
      · have hv : r = .tup vs := by
          match vs, ys, e1, hr with
          | [], [], _, hr => simp at hr; exact hr.symm
          | [_], [y], _, _ => exact absurd ⟨y, rfl⟩ h1
          | _ :: _ :: _, _ :: _ :: _, _, hr => simp at hr; exact hr.symm
        have hrv : resVal (ys.map val1) = Value.tuple (ys.map val1).toArray := by
          match ys with
          | [] => rfl
          | [y] => exact absurd ⟨y, rfl⟩ h1
          | _ :: _ :: _ => rfl
        refine ⟨_, hrr, .tup ys, ?_, by rw [hv, ← e1]; simp [er], ?_⟩
        · rw [hrv]; simp [val]
        · refine ⟨⟨Z, z1, hz2, by simpa [Ok] using hokL, by simpa [fp] using hapy⟩, ?_, by simpa [fp] using hndy, by simpa [fp] using hown, hsame, hG2.grew, hG2.os, hG2.tape, hG2.output⟩
          simp only [NR]
          intro u hu
          exact .inr ((plL_iff _).1 hpl2 u hu)
  refine wp_mono (hw _ _ _ _ _ (Kp.frees_none _ _) hA) fun e a' w' ⟨S', q, hS'⟩ => ?_
  cases e with
  | normal => exact hfin S' a' w' hS' q
  | ret => exact hfin S' a' w' hS' q
  | _ => exact q.elim
end
end Go.Bv
