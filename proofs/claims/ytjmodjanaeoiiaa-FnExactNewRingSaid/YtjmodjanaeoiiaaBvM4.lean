/- Rules for by-value frames, generic, no program. -/
import Derived.Test.YtjmodjanaeoiiaaBvM3
/-! Calls that are handed what the frame owns; calls of function values. -/
namespace Go.Bv
open Go Go.RowKit
set_option linter.unusedSimpArgs false
set_option linter.unusedVariables false

section
variable {K : Nat → Prop} {w0 : World} {Z : Nat → Prop} {Sc L : List CV} {a : Act} {w : World} {P : Program} {Γ : Tab} {ops : Array Oper} {l : List Oper} {S : List AV} {N : List AV → Prop} {o : Oper}

/-- What was handed over is gone; a result stands in its place. -/
theorem Good.after {ys : List CV} (h : Good K w0 Z Sc ys a w) {Z' : Nat → Prop} {w' : World} {c : CV} (hZ : ∀ b, Z b → Z' b) (hZ' : ∀ b, Z' b → (Z b ∨ w.heap.size ≤ b) ∧ b < w'.heap.size) (hok : Ok w' Z' c)
    (hap : ∀ b ∈ fp c, ¬ Z' b) (hn : NR c) (hnd : (fp c).Nodup) (hown : ∀ b ∈ fp c, (b ∈ fps ys ∨ w.heap.size ≤ b) ∧ b < w'.heap.size) (hsame : ∀ b, b < w.heap.size → b ∉ fps ys → w'.heap[b]? = w.heap[b]?)
    (hgr : w.heap.size ≤ w'.heap.size) (hos : w'.os = w.os) (htp : w'.tape = w.tape) (hout : w'.output = w.output) : Good K w0 Z' Sc [c] a w' := by
  have hnod := h.nodup
  rw [fps_append, List.nodup_append] at hnod
  have hS : ∀ b ∈ fps Sc, b ∈ fps (Sc ++ ys) := fun b hb => by rw [fps_append]; exact List.mem_append_left _ hb
  have hY : ∀ b ∈ fps ys, b ∈ fps (Sc ++ ys) := fun b hb => by rw [fps_append]; exact List.mem_append_right _ hb
  have hlt : ∀ b ∈ fps Sc, b < w.heap.size := fun b hb => h.lt b (.inl (hS b hb))
  have hSY : ∀ b ∈ fps Sc, b ∉ fps ys := fun b hb hm => hnod.2.2 b hb b hm rfl
  have ef : fps (Sc ++ [c]) = fps Sc ++ fp c := by simp [fps_append, fps]
  refine { defers := h.defers, size := h.size, tmps := h.tmps, ok := ?_, nodup := ?_, apart := fun b hb => ?_, lt := fun b hb => ?_, refs := h.refs, wf := h.wf, sorted := h.sorted, nr := by simpa using hn, kept := fun b hk => ?_, os := hos.trans h.os, tape := htp.trans h.tape, output := hout.trans h.output, grew := Nat.le_trans h.grew hgr }
  · rw [okL_append]
    refine ⟨OkL.congr hZ (fun b hb => hsame b (h.lt b (.inr hb)) (fun hm => h.apart b (hY b hm) hb)) _ (fun b hb => hsame b (hlt b hb) (hSY b hb)) ((okL_append _ _).1 h.ok).1, by simpa [OkL] using hok⟩
  · rw [ef, List.nodup_append]
    refine ⟨hnod.1, hnd, fun x hx y hy e => ?_⟩
    subst e
    rcases (hown x hy).1 with h1 | h1
    · exact hSY x hx h1
    · have := hlt x hx; omega
  · rw [ef, List.mem_append] at hb
    rcases hb with hb | hb
    · intro hz
      rcases (hZ' b hz).1 with hz | hz
      · exact h.apart b (hS b hb) hz
      · have := hlt b hb; omega
    · exact hap b hb
  · rw [ef, List.mem_append] at hb
    rcases hb with (hb | hb) | hb
    · have := hlt b hb; omega
    · exact (hown b hb).2
    · exact (hZ' b hb).2
  · obtain ⟨k1, k2, k3⟩ := h.kept b hk
    refine ⟨k1, fun hm => ?_, (hsame b (Nat.lt_of_lt_of_le k1 h.grew) (fun hm => k2 (hY b hm))).trans k3⟩
    rw [ef, List.mem_append] at hm
    rcases hm with hm | hm
    · exact k2 (hS b hm)
    · rcases (hown b hm).1 with h1 | h1
      · exact k2 (hY b h1)
      · have := h.grew; omega

/-- A call that is handed its arguments: what they lean on goes with them. -/
theorem call_move {o : Oper} {f : Nat} {args : Array Operand} {ats : Array TypeId} (ho : o.op = .call { callee := .value (.func f), args, argTypes := ats }) (hf : ∀ vs w, (callFunc f vs).run P w = .ok (.enter f vs) w)
    {S vs vs' S1 : List AV} {r : AV} (hvs : ards S args.toList = some vs) (ht : atakes S vs = some (vs', S1)) (hS : Sound P f vs' r) : AO P o S (aput o.dst r S1) := ao_of fun K w0 Z0 a w hGK ⟨Z, Sc, z1, z2, hSc, hG⟩ Q => by
  subst hSc
  obtain ⟨ys, Sc', rfl, rfl, hG1, hpl, hval⟩ := parts_good hG hvs ht
  rw [List.append_nil] at hG1
  have hnd := hG1.nodup
  rw [fps_append, List.nodup_append] at hnd
  have hmem : ∀ b ∈ fps ys, b ∈ fps (Sc' ++ ys) := fun b hb => by rw [fps_append]; exact List.mem_append_right _ hb
  unfold Oper.wp
  rw [run_call ho hf]
  simp only [Oper.upon]
  have ha : args.map a.eval = (ys.map val).toArray := by rw [hval]; apply Array.ext'; simp
  rw [ha]
  refine Calls.mono (hS w Z ys rfl ((okL_append _ _).1 hG1.ok).2 hnd.2.1 (fun b hb => hG1.apart b (hmem b hb)) (fun b hb => hG1.lt b (hb.imp (hmem b) id)) hpl ((hG1.gw hGK).mono hmem)) fun e w' ⟨c, he, hc, hr⟩ => ?_
  subst he
  obtain ⟨Z', k1, k2, k3, k4⟩ := hr.ok
  have hG2 := hG1.after k1 k2 k3 k4 hr.nr hr.nodup hr.own hr.same hr.grew hr.os hr.tape hr.output
  refine ⟨Z', cput o.dst c Sc', fun b hb => k1 b (z1 b hb), fun b hb => ?_, by rw [er_cput, hc], hG2.put o.dst⟩
  rcases (k2 b hb).1 with h | h
  · exact z2 b h
  · exact .inr (Nat.le_trans hG.grew h)
theorem al_move {f : Nat} {args : Array Operand} {ats : Array TypeId} {vs vs' S1 S' : List AV} {r : AV} (hg : gchk ops S o = some true) (ho : o.op = .call { callee := .value (.func f), args, argTypes := ats }) (hf : ∀ vs w, (callFunc f vs).run P w = .ok (.enter f vs) w)
    (hvs : ards S args.toList = some vs) (ht : atakes S vs = some (vs', S1)) (hS : Sound P f vs' r) (hp : aput o.dst r S1 = S') (h : AL P false ops l S' N) : AL P false ops (o :: l) S N := by
  subst hp
  exact al_op hg (call_move ho hf hvs ht hS) h

/-- No struct among them. -/
def noAgg (vs : List AV) : Bool := vs.all fun | .agg _ => false | _ => true
theorem run_callv {o : Oper} {x : Operand} {f : Nat} {caps : Array Value} {args : Array Operand} {ats : Array TypeId} (ho : o.op = .call { callee := .value x, args, argTypes := ats }) (hf : ∀ vs w, (callFunc f vs).run P w = .ok (.enter f vs) w) (hx : a.eval x = .func (.func f) #[] caps) :
    (execOp a.eval o).run P w = .ok (.enter f (args.map a.eval ++ caps)) w := by
  unfold execOp
  simp [ho, resolve, Deferred.ofValue, invoke, hx, hf, Sem.run_bind]
/-- A call of a function value: shown its arguments and what it holds. -/
theorem callv_snap {o : Oper} {x : Operand} {f : Nat} {args : Array Operand} {ats : Array TypeId} (ho : o.op = .call { callee := .value x, args, argTypes := ats }) (hf : ∀ vs w, (callFunc f vs).run P w = .ok (.enter f vs) w)
    {S vs us ps : List AV} {r : AV} (hx : ard S x = some (.fn f us)) (hna : noAgg us = true) (hvs : ards S args.toList = some vs) (hps : asnaps S (vs ++ us) = some ps) (hS : Sound P f ps r) (hn : noSh r = true) : AO P o S (aput o.dst r S) := ao_of fun K w0 Z0 a w hGK ⟨Z, Sc, z1, z2, hSc, hG⟩ Q => by
  subst hSc
  obtain ⟨cs, h1, h2, h3⟩ := ards_sound hG _ _ hvs
  obtain ⟨g, g1, g2, g3, g4⟩ := hG.rd hx
  obtain ⟨xs, rfl, rfl⟩ := er_fn g1
  have hxr := g3.refOk
  have hxw := g3.wf
  have hxo := g3.ok
  have hxf := g3.fp
  simp only [RefOk] at hxr
  simp only [Wf] at hxw
  simp only [Ok] at hxo
  simp only [fp] at hxf
  have hna' : ∀ c ∈ xs, ∀ ys, c ≠ .agg ys := by
    rintro c hc ys rfl
    unfold noAgg at hna
    rw [List.all_eq_true] at hna
    have := hna (er (.agg ys)) (by rw [ers_eq]; exact List.mem_map_of_mem hc)
    simp [er] at this
  have hfps : fps cs = [] := by
    clear hvs h1 h2 hps
    induction cs with
    | nil => rfl
    | cons c cs ih => simp [fps, (h3 c (by simp)).1.fp, ih (fun c hc => h3 c (by simp [hc]))]
  obtain ⟨ds, d1, d2, d3, d4, d5, d6⟩ := snaps_good hG (cs ++ xs) ((refOkL_iff _).2 fun c hc => (List.mem_append.1 hc).elim (fun hc => (h3 c hc).1.refOk) (fun hc => (refOkL_iff _).1 hxr c hc))
    ((wfL_iff _).2 fun c hc => (List.mem_append.1 hc).elim (fun hc => (h3 c hc).1.wf) (fun hc => (wfL_iff _).1 hxw c hc))
    ((okL_append _ _).2 ⟨(okL_iff _).2 fun c hc => (h3 c hc).1.ok, hxo.2⟩) (by rw [fps_append, hfps, hxf]; rfl) ps (by rw [ers_append, h1]; exact hps)
  have e1 : ds.map val = ds.map val1 := List.map_congr_left fun c hc => val_of_val1 ((plL_iff _).1 d5 c hc).not_tup
  have e2 : cs.map val = cs.map val1 := List.map_congr_left fun c hc => val_of_val1 (h3 c hc).2
  have hev : a.eval x = .func (.func f) #[] (xs.map val1).toArray := by
    rw [← g2, ← flats_one hna']; rfl
  unfold Oper.wp
  rw [run_callv ho hf hev]
  simp only [Oper.upon]
  have ha : args.map a.eval ++ (xs.map val1).toArray = (ds.map val).toArray := by
    rw [e1, d6, List.map_append, ← e2, h2]; apply Array.ext'; simp
  rw [ha]
  refine Calls.mono (hS w (Bv.below w) ds d1 d3 (by simp [d4]) (by simp [d4]) (fun b hb => by simp only [d4, List.not_mem_nil, false_or] at hb; exact hb) d5 ((hG.gw hGK).mono (by simp [d4]))) fun e w' ⟨c, he, hc, hr⟩ => ?_
  subst he
  rw [d4] at hr
  obtain ⟨Z', k1, k2, k3, k4⟩ := hr.ok
  have hok : Ok w' Z c := noSh_ok c (by rw [hc]; exact hn) k3
  have hfr : ∀ b ∈ fp c, w.heap.size ≤ b ∧ b < w'.heap.size := fun b hb => ⟨by simpa using (hr.own b hb).1, (hr.own b hb).2⟩
  have hG2 := hG.fresh (fun b hb => hr.same b hb (by simp)) hr.grew hr.os hr.tape hr.output (Z' := Z) (fun b hb => hb) (fun b hb => ⟨.inl hb, Nat.lt_of_lt_of_le (hG.lt b (.inr hb)) hr.grew⟩) hok (fun b hb hz => by have := hG.lt b (.inr hz); have := (hfr b hb).1; omega) hr.nodup hfr hr.nr
  exact ⟨Z, cput o.dst c Sc, z1, z2, by rw [er_cput, hc], hG2.put o.dst⟩
theorem al_callv {x : Operand} {f : Nat} {args : Array Operand} {ats : Array TypeId} {vs us ps S' : List AV} {r : AV} (hg : gchk ops S o = some true) (ho : o.op = .call { callee := .value x, args, argTypes := ats })
    (hx : ard S x = some (.fn f us)) (hf : ∀ vs w, (callFunc f vs).run P w = .ok (.enter f vs) w) (hna : noAgg us = true) (hvs : ards S args.toList = some vs) (hps : asnaps S (vs ++ us) = some ps) (hS : Sound P f ps r) (hn : noSh r = true) (hp : aput o.dst r S = S')
    (h : AL P false ops l S' N) : AL P false ops (o :: l) S N := by
  subst hp
  exact al_op hg (callv_snap ho hf hx hna hvs hps hS hn) h
end
end Go.Bv
