/- A function that returns a pointer to a new box; the nil pointer in a slot. Generic: no program. -/
import Derived.Test.YtffpfjnakhpheaaDoorBvM5
namespace Go.Bv
open Go Go.RowKit
set_option linter.unusedSimpArgs false
set_option linter.unusedVariables false
def endsX (t q : Nat) (z : AV) : Exit → List AV → Prop
  | .ret, S | .normal, S => S[t]? = some (.at q []) ∧ S[q]? = some (.box z)
  | _, _ => False
section
variable {P : Program} {Γ : Tab}
theorem sound_bodyX {f : Nat} {fn : Func} {c : Code} (hf : P.funcs[f]? = some fn) (hb : fn.body = some c) {args : List AV} {t q : Nat} {z : AV} (hres : fn.results.toList = [.tmp t])
    (hw : AW P c (frame args fn.ntmps) (endsX t q z)) : Sound P f args (.box z) := by
  intro w Z0 cs hcs hok hnd hap hlt hpl hgw
  subst hcs
  have hl : (ers cs).length = cs.length := by simp [ers_eq]
  refine calls_of_wp hf hb ?_
  have hA : At (P := P) ⟨fun b => b < w.heap.size ∧ b ∉ fps cs, fun _ => none⟩ w Z0 (frame (ers cs) fn.ntmps) { tmps := (cs.map val).toArray ++ Array.replicate (fn.ntmps - (cs.map val).toArray.size) undef, defers := [] } w := by
    refine ⟨⟨Z0, cs ++ List.replicate (fn.ntmps - cs.length) (.undef undef), fun b h => h, fun b h => .inl h, by rw [ers_append, ers_undef, frame, hl], ?_⟩, ⟨(fun _ _ h => by cases h), hgw⟩⟩
    have ef : fps ((cs ++ List.replicate (fn.ntmps - cs.length) (.undef undef)) ++ []) = fps cs := by simp [fps_append, fps_undef]
    refine { defers := rfl, size := by simp, tmps := fun t ht => ?_, ok := ?_, nodup := by rw [ef]; exact hnd, apart := by rw [ef]; exact hap, lt := fun b hb' => ?_, refs := fun x hx => ?_, wf := fun x hx => ?_, sorted := fun x hx => ?_, nr := by simp,
             kept := fun b hk => ⟨hk.1, by rw [ef]; exact hk.2, rfl⟩, os := rfl, tape := rfl, output := rfl, grew := Nat.le_refl _ }
    · simp only [Array.getElem?_append, List.size_toArray, List.length_map, List.getElem?_append]
      split
      · simp
      · rename_i hge
        have ht' : t < cs.length + (fn.ntmps - cs.length) := by simpa using ht
        simp only [List.getElem?_replicate, Array.getElem?_replicate]
        have : t - cs.length < fn.ntmps - cs.length := by omega
        simp [this, val, val1, flat]
    · rw [List.append_nil, okL_append]
      refine ⟨hok, (okL_iff _).2 fun x hx => ?_⟩
      rw [List.eq_of_mem_replicate hx]; simp [Ok]
    · rw [ef] at hb'; exact hlt b hb'
    · rcases List.mem_append.1 hx with hx | hx
      · exact Pl.refOk _ ((plL_iff _).1 hpl x hx)
      · rw [List.eq_of_mem_replicate hx]; simp [RefOk]
    · rcases List.mem_append.1 hx with hx | hx
      · exact Pl.wf _ ((plL_iff _).1 hpl x hx)
      · rw [List.eq_of_mem_replicate hx]; simp [Wf]
    · rcases List.mem_append.1 hx with hx | hx
      · exact .inl ((plL_iff _).1 hpl x hx).nr
      · rw [List.eq_of_mem_replicate hx]; exact .inr (by simp [NoOwn])
  have hfin : ∀ S' a' w', At (P := P) ⟨fun b => b < w.heap.size ∧ b ∉ fps cs, fun _ => none⟩ w Z0 S' a' w' → S'[t]? = some (.at q []) ∧ S'[q]? = some (.box z) →
      a'.defers = [] ∧ ∃ v, (results fn a'.tmps).run P w' = .ok v w' ∧ ∃ c, Ending.returned v = .returned (val c) ∧ er c = .box z ∧ Res Z0 (fps cs) w w' c := by
    intro S' a' w' hA' ⟨ht, hq⟩
    obtain ⟨⟨Z, Sc, z1, z2, rfl, hG⟩, _⟩ := hA'
    refine ⟨hG.defers, ?_⟩
    rw [ers_eq, List.getElem?_map, Option.map_eq_some_iff] at ht hq
    obtain ⟨u, hu, eu⟩ := ht
    obtain ⟨y, hy, ey⟩ := hq
    obtain ⟨ad, rfl⟩ := er_at eu
    cases y <;> simp only [er] at ey <;> try (cases ey; done)
    rename_i b ty zc
    simp only [AV.box.injEq] at ey
    have hr := hG.refs _ (List.mem_of_getElem? hu)
    simp only [RefOk] at hr
    obtain ⟨x1, y1, h1, h2, h3⟩ := hr
    rw [hy] at h1; cases h1
    simp only [rootC, cgetN, Option.some.injEq, Prod.mk.injEq] at h3
    obtain ⟨rfl, rfl⟩ := h3
    have htl : t < a'.tmps.size := by rw [hG.size]; exact (List.getElem?_eq_some_iff.1 hu).1
    have htv : a'.tmps[t]? = some (.pointer (some ⟨b, 0, none⟩)) := by rw [hG.tmps t htl, hu]; simp [val, val1, flat]
    have hrun : (fn.results.toList.mapM (resRun a')).run P w' = .ok [.pointer (some ⟨b, 0, none⟩)] w' := by
      rw [hres]
      have : a'.tmps.getD t undef = .pointer (some ⟨b, 0, none⟩) := by rw [Array.getD_eq_getD_getElem?, htv]; rfl
      simp [resRun, this]
    have hrr := run_results hrun
    have hin : ∀ c ∈ fp (.box b ty zc), c ∈ fps (Sc ++ []) := fun c hc => by
      rw [List.append_nil]
      exact mem_fps.2 ⟨_, List.mem_of_getElem? hy, hc⟩
    have hok := ((okL_cut hy).1 ((okL_append _ _).1 hG.ok).1).2.1
    have hnr : NR (.box b ty zc) := by
      rcases hG.sorted _ (List.mem_of_getElem? hy) with h | h
      · exact h
      · simp [NoOwn] at h
    have hnd' : (fp (.box b ty zc)).Nodup := by
      have := hG.nodup
      rw [List.append_nil, fps_cut hy] at this
      exact (List.nodup_append.1 (List.nodup_append.1 this).2.1).1
    refine ⟨_, hrr, .box b ty zc, by simp [resVal, val, val1, flat], by simp [er, ey], ⟨Z, z1, fun c hc => ⟨z2 c hc, hG.lt c (.inr hc)⟩, hok, fun c hc => hG.apart c (hin c hc)⟩, hnr, hnd', fun c hc => ⟨?_, hG.lt c (.inl (hin c hc))⟩, fun c h1 h2 => (hG.kept c ⟨h1, h2⟩).2.2, hG.grew, hG.os, hG.tape, hG.output⟩
    by_cases hk : c < w.heap.size
    · by_cases hm : c ∈ fps cs
      · exact .inl hm
      · exact absurd (hin c hc) (hG.kept c ⟨hk, hm⟩).2.1
    · exact .inr (by omega)
  refine wp_mono (hw _ _ _ _ _ (Kp.frees_none _ _) hA) fun e a' w' ⟨S', q, hS'⟩ => ?_
  cases e with
  | normal => exact hfin S' a' w' hS' q
  | ret => exact hfin S' a' w' hS' q
  | _ => exact q.elim
theorem snd_X {f n t q : Nat} {fn : Func} {c : Code} {args fr : List AV} {z : AV} {rs : Array ResultVar} (hf : P.funcs[f]? = some fn) (hr : fn.results = rs) (hn : fn.ntmps = n) (hrs : rs.toList = [.tmp t]) (h : AW P c fr (endsX t q z)) (hb : fn.body = some c := by rfl)
    (hfr : frame args n = fr := by simp only [frame, List.length_cons, List.length_nil, List.replicate, List.cons_append, List.nil_append, Nat.reduceAdd, Nat.reduceSub]; first | done | with_reducible rfl | fail) : Sound P f args (.box z) := by
  subst hr hn hfr; exact sound_bodyX hf hb hrs h
variable {S S' : List AV} {ops : Array Oper} {l : List Oper} {o : Oper} {N : List AV → Prop}
/-- The nil pointer, assigned: not looked at. -/
theorem o_aptr (ho : o.op = .assign (.const (.pointer none))) (hp : aput o.dst .undef S = S') : AO P o S S' :=
  hp ▸ es_AO fun K w0 Z Sc a w e h => by
    subst e
    have hrun : (execOp a.eval o).run P w = .ok (.value (.pointer none)) w := by
      unfold execOp
      simp [ho, Act.eval]
    refine es_value hrun (Sc' := cput o.dst (.undef (.pointer none)) Sc) (by rw [er_cput]; simp [er]) ?_
    have := h.putRd o.dst (c := .undef (.pointer none)) ⟨by simp [RefOk], by simp [Wf], by simp [Ok], by simp [fp], .inr (by simp [NoOwn])⟩
    simpa only [val_undef] using this
theorem i_aptr (hg : gchk ops S o = some true := by exact gchk_none rfl) (ho : o.op = .assign (.const (.pointer none)) := by rfl) (hp : aput o.dst .undef S = S' := by simp only [go_sem]; first | done | with_reducible rfl) : AL P false ops l S' N → AL P false ops (o :: l) S N := al_op hg (o_aptr ho hp)
end
end Go.Bv
