/- Contracts of functions over by-value arguments; calls; a body's contract. Generic: no program. -/
import Derived.Test.YtjmodjanaeoiiaaBvV
import Derived.Laws.Sem
namespace Go.Bv
open Go Go.RowKit
set_option linter.unusedSimpArgs false
set_option linter.unusedVariables false

/-- What a call leaves: the result c, of its own memory or of what it was handed; all else stands. -/
structure Res (Z0 : Nat → Prop) (fs : List Nat) (w w' : World) (c : CV) : Prop where
  ok : ∃ Z', (∀ b, Z0 b → Z' b) ∧ (∀ b, Z' b → (Z0 b ∨ w.heap.size ≤ b) ∧ b < w'.heap.size) ∧ Ok w' Z' c ∧ ∀ b ∈ fp c, ¬ Z' b
  nr : NR c
  nodup : (fp c).Nodup
  own : ∀ b ∈ fp c, (b ∈ fs ∨ w.heap.size ≤ b) ∧ b < w'.heap.size
  same : ∀ b, b < w.heap.size → b ∉ fs → w'.heap[b]? = w.heap[b]?
  grew : w.heap.size ≤ w'.heap.size
  os : w'.os = w.os
  tape : w'.tape = w.tape
  output : w'.output = w.output

/-- Function f, of these arguments by value, returns r. -/
def Sound (P : Program) (f : Nat) (args : List AV) (r : AV) : Prop :=
  ∀ (w : World) (Z0 : Nat → Prop) (cs : List CV), ers cs = args → OkL w Z0 cs → (fps cs).Nodup → (∀ b ∈ fps cs, ¬ Z0 b) → (∀ b, (b ∈ fps cs ∨ Z0 b) → b < w.heap.size) → PlL cs →
    Calls P f (cs.map val).toArray w (fun e w' => ∃ c, e = .returned (val c) ∧ er c = r ∧ Res Z0 (fps cs) w w' c)

mutual
/-- Leans on no memory but its own. -/
def noSh : AV → Bool
  | .lst true _ xs => noShs xs
  | .lst false _ _ => false
  | .agg xs => noShs xs
  | .tup xs => noShs xs
  | .bool _ | .int _ _ | .str _ | .undef => true
  | _ => false
def noShs : List AV → Bool
  | [] => true
  | x :: xs => noSh x && noShs xs
end
mutual
theorem noSh_ok {w : World} {Z Z' : Nat → Prop} : ∀ x : CV, noSh (er x) = true → Ok w Z x → Ok w Z' x
  | .lst o s A c xs, hn, h => by
    simp only [Ok] at h ⊢
    obtain ⟨⟨h1, h2, h3⟩, h4, h5, h6⟩ := h
    cases o
    · simp [er, noSh] at hn
    · simp only [er, noSh] at hn
      refine ⟨⟨h1, ?_, h3⟩, h4, h5, noShs_ok xs hn h6⟩
      rcases h2 with h2 | ⟨a, e1, e2, e3, _⟩
      · exact .inl h2
      · exact .inr ⟨a, e1, e2, e3, by simp⟩
  | .agg xs, hn, h => by simp only [er, noSh, Ok] at hn h ⊢; exact noShs_ok xs hn h
  | .tup xs, hn, h => by simp only [er, noSh, Ok] at hn h ⊢; exact noShs_ok xs hn h
  | .undef _, _, _ | .bool _, _, _ | .int _ _, _, _ | .str _, _, _ => by simp [Ok]
  | .fn _ _, hn, _ | .ip _ _, hn, _ | .at _ _ _, hn, _ | .ref _ _ _ _ _, hn, _ | .box _ _ _, hn, _ => by simp [er, noSh] at hn
theorem noShs_ok {w : World} {Z Z' : Nat → Prop} : ∀ xs : List CV, noShs (ers xs) = true → OkL w Z xs → OkL w Z' xs
  | [], _, _ => by simp [OkL]
  | x :: xs, hn, h => by
    simp only [ers, noShs, Bool.and_eq_true, OkL] at hn h ⊢
    exact ⟨noSh_ok x hn.1 h.1, noShs_ok xs hn.2 h.2⟩
end

section
variable {K : Nat → Prop} {w0 : World} {Z : Nat → Prop} {Sc L : List CV} {a : Act} {w : World} {P : Program} {Γ : Tab}

/-- A value of fresh memory comes beside the frame. -/
theorem Good.fresh (h : Good K w0 Z Sc [] a w) {Z' : Nat → Prop} {w' : World} {c : CV} (hb : ∀ b, b < w.heap.size → w'.heap[b]? = w.heap[b]?) (hs : w.heap.size ≤ w'.heap.size) (ho : w'.os = w.os) (ht : w'.tape = w.tape) (hu : w'.output = w.output)
    (hZ : ∀ b, Z b → Z' b) (hZ' : ∀ b, Z' b → (Z b ∨ w.heap.size ≤ b) ∧ b < w'.heap.size) (hok : Ok w' Z' c) (hap : ∀ b ∈ fp c, ¬ Z' b) (hnd : (fp c).Nodup) (hfr : ∀ b ∈ fp c, w.heap.size ≤ b ∧ b < w'.heap.size) (hn : NR c) : Good K w0 Z' Sc [c] a w' := by
  have h1 := h.world hb hs ho ht hu
  have hlt : ∀ b ∈ fps Sc, b < w.heap.size := fun b hb => h.lt b (.inl (by simpa [fps_append, fps] using hb))
  have ef : fps (Sc ++ [c]) = fps Sc ++ fp c := by simp [fps_append, fps]
  refine { h1 with ok := ?_, nodup := ?_, apart := fun b hb => ?_, lt := fun b hb => ?_, nr := by simpa using hn, kept := fun b hk => ⟨(h1.kept b hk).1, fun hm => ?_, (h1.kept b hk).2.2⟩ }
  · rw [okL_append]
    have := (okL_append Sc []).1 h1.ok
    exact ⟨this.1.congr (w := w') (w' := w') hZ (fun _ _ => rfl) _ (fun _ _ => rfl), by simpa [OkL] using hok⟩
  · rw [ef, List.nodup_append]
    refine ⟨by simpa [fps_append, fps] using h.nodup, hnd, fun x hx y hy => ?_⟩
    have := hlt x hx; have := (hfr y hy).1; omega
  · rw [ef, List.mem_append] at hb
    rcases hb with hb | hb
    · intro hz
      rcases (hZ' b hz).1 with hz | hz
      · exact h.apart b (by simpa [fps_append, fps] using hb) hz
      · have := hlt b hb; omega
    · exact hap b hb
  · rw [ef, List.mem_append] at hb
    rcases hb with (hb | hb) | hb
    · have := hlt b hb; omega
    · exact (hfr b hb).2
    · exact (hZ' b hb).2
  · rw [ef, List.mem_append] at hm
    rcases hm with hm | hm
    · exact (h1.kept b hk).2.1 (by simpa [fps_append, fps] using hm)
    · have := (hfr b hm).1; have := (h1.kept b hk).1; have := h.grew; omega

theorem run_call {o : Oper} {f : Nat} {args : Array Operand} {ats : Array TypeId} (ho : o.op = .call { callee := .value (.func f), args, argTypes := ats }) (hf : ∀ vs w, (callFunc f vs).run P w = .ok (.enter f vs) w) :
    (execOp a.eval o).run P w = .ok (.enter f (args.map a.eval)) w := by
  unfold execOp
  simp [ho, resolve, Deferred.ofValue, invoke, Act.eval, hf, Sem.run_bind]

theorem call_good {o : Oper} {f : Nat} {args : Array Operand} {ats : Array TypeId} (ho : o.op = .call { callee := .value (.func f), args, argTypes := ats }) (hf : ∀ vs w, (callFunc f vs).run P w = .ok (.enter f vs) w)
    (h : Good K w0 Z Sc [] a w) {Z0 : Nat → Prop} {cs : List CV} {r : AV} (hcs : cs.map val = args.toList.map a.eval) (hok : OkL w Z0 cs) (hfp : fps cs = []) (hZ0 : ∀ b, Z0 b → b < w.heap.size) (hpl : PlL cs)
    (hS : Sound P f (ers cs) r) {N : Act → World → Prop} {Q : Exit → Act → World → Prop}
    (hN : ∀ w' c, er c = r → Res Z0 [] w w' c → N (a.put o.dst (val c)) w') : o.wp P a w N Q := by
  unfold Oper.wp
  rw [run_call ho hf]
  simp only [Oper.upon]
  have := hS w Z0 cs rfl hok (by simp [hfp]) (by simp [hfp]) (fun b hb => by simp only [hfp, List.not_mem_nil, false_or] at hb; exact hZ0 b hb) hpl
  have ha : args.map a.eval = (cs.map val).toArray := by rw [hcs]; apply Array.ext'; simp
  rw [ha]
  refine Calls.mono this fun e w' ⟨c, he, hc, hr⟩ => ?_
  subst he
  rw [hfp] at hr
  exact hN w' c hc hr

/-- A call whose arguments lean on nothing of the frame. -/
theorem call_AO {o : Oper} {f : Nat} {args : Array Operand} {ats : Array TypeId} (ho : o.op = .call { callee := .value (.func f), args, argTypes := ats }) (hf : ∀ vs w, (callFunc f vs).run P w = .ok (.enter f vs) w)
    {S : List AV} {vs : List AV} {r : AV} (hvs : ards S args.toList = some vs) (hpl : plAs vs = true) (hS : Sound P f vs r) : AO P o S (aput o.dst r S) := ao_of fun K w0 Z0 a w ⟨Z, Sc, z1, z2, hSc, hG⟩ Q => by
  subst hSc
  obtain ⟨cs, h1, h2, h3⟩ := ards_sound hG _ _ hvs
  have hfp : fps cs = [] := by
    clear hvs h1 h2
    induction cs with
    | nil => rfl
    | cons c cs ih => simp [fps, (h3 c (by simp)).1.fp, ih (fun c hc => h3 c (by simp [hc]))]
  refine call_good ho hf hG (Z0 := Z) (cs := cs) (r := r) h2 ((okL_iff _).2 fun c hc => (h3 c hc).1.ok) hfp (fun b hb => hG.lt b (.inr hb)) (plL_er cs (by rw [h1]; exact hpl)) (by rw [h1]; exact hS) fun w' c hc hr => ?_
  obtain ⟨Z', k1, k2, k3, k4⟩ := hr.ok
  have hG2 := hG.fresh (fun b hb => hr.same b hb (by simp)) hr.grew hr.os hr.tape hr.output k1 k2 k3 k4 hr.nodup (fun b hb => ⟨by simpa using (hr.own b hb).1, (hr.own b hb).2⟩) hr.nr
  refine ⟨Z', cput o.dst c Sc, fun b hb => k1 b (z1 b hb), fun b hb => ?_, by rw [er_cput, hc], hG2.put o.dst⟩
  rcases (k2 b hb).1 with h | h
  · exact z2 b h
  · exact .inr (Nat.le_trans hG.grew h)
/-- A call that is shown what the frame holds; its result leans on nothing. -/
theorem call_snap {o : Oper} {f : Nat} {args : Array Operand} {ats : Array TypeId} (ho : o.op = .call { callee := .value (.func f), args, argTypes := ats }) (hf : ∀ vs w, (callFunc f vs).run P w = .ok (.enter f vs) w)
    {S : List AV} {vs ps : List AV} {r : AV} (hvs : ards S args.toList = some vs) (hps : asnaps S vs = some ps) (hS : Sound P f ps r) (hn : noSh r = true) : AO P o S (aput o.dst r S) := ao_of fun K w0 Z0 a w ⟨Z, Sc, z1, z2, hSc, hG⟩ Q => by
  subst hSc
  obtain ⟨cs, h1, h2, h3⟩ := ards_sound hG _ _ hvs
  have hfp : fps cs = [] := by
    clear hvs h1 h2
    induction cs with
    | nil => rfl
    | cons c cs ih => simp [fps, (h3 c (by simp)).1.fp, ih (fun c hc => h3 c (by simp [hc]))]
  obtain ⟨ds, d1, d2, d3, d4, d5, d6⟩ := snaps_good hG cs ((refOkL_iff _).2 fun c hc => (h3 c hc).1.refOk) ((wfL_iff _).2 fun c hc => (h3 c hc).1.wf) ((okL_iff _).2 fun c hc => (h3 c hc).1.ok) hfp ps (by rw [h1]; exact hps)
  have hds : ds.map val = args.toList.map a.eval := by
    rw [← h2]
    have e1 : ds.map val = ds.map val1 := List.map_congr_left fun c hc => val_of_val1 ((plL_iff _).1 d5 c hc).not_tup
    have e2 : cs.map val = cs.map val1 := List.map_congr_left fun c hc => val_of_val1 (h3 c hc).2
    rw [e1, e2, d6]
  refine call_good ho hf hG (Z0 := Bv.below w) (cs := ds) (r := r) hds d3 d4 (fun b hb => hb) d5 (by rw [d1]; exact hS) fun w' c hc hr => ?_
  obtain ⟨Z', k1, k2, k3, k4⟩ := hr.ok
  have hok : Ok w' Z c := noSh_ok c (by rw [hc]; exact hn) k3
  have hfr : ∀ b ∈ fp c, w.heap.size ≤ b ∧ b < w'.heap.size := fun b hb => ⟨by simpa using (hr.own b hb).1, (hr.own b hb).2⟩
  have hG2 := hG.fresh (fun b hb => hr.same b hb (by simp)) hr.grew hr.os hr.tape hr.output (Z' := Z) (fun b hb => hb) (fun b hb => ⟨.inl hb, Nat.lt_of_lt_of_le (hG.lt b (.inr hb)) hr.grew⟩) hok (fun b hb hz => by have := hG.lt b (.inr hz); have := (hfr b hb).1; omega) hr.nodup hfr hr.nr
  exact ⟨Z, cput o.dst c Sc, z1, z2, by rw [er_cput, hc], hG2.put o.dst⟩

/-! ### what a body returns -/
def ares1 (Γ : Tab) (S : List AV) : ResultVar → Option (AV × List AV)
  | .tmp t => match ard S (.tmp t) with | some v => atake S v | none => none
  | .cell t T => match ard S (.tmp t) with
    | some (.at r p) => (match aget S r p with | some y => if fitsA Γ T y then atake S (aview r p y) else none | none => none)
    | _ => none
def aresL (Γ : Tab) : List ResultVar → List AV → Option (List AV × List AV)
  | [], S => some ([], S)
  | x :: xs, S => match ares1 Γ S x with
    | some (v, S1) => (match aresL Γ xs S1 with | some (vs, S2) => some (v :: vs, S2) | none => none)
    | none => none
def ares (Γ : Tab) (rs : List ResultVar) (S : List AV) : Option AV :=
  match aresL Γ rs S with
  | some ([v], _) => some v
  | some (vs, _) => some (.tup vs)
  | none => none
def resRun (a : Act) : ResultVar → Sem Value
  | .tmp t => pure (a.tmps.getD t undef)
  | .cell t T => do loadVar T (← asAddr (a.tmps.getD t undef))

theorem taken {c : CV} (h : Good K w0 Z Sc L a w) (hrd : Rd w Z Sc c) (hnt : ∀ xs, c ≠ .tup xs) {v' : AV} {S' : List AV} (ht : atake (ers Sc) (er c) = some (v', S')) :
    ∃ y Sc', er y = v' ∧ ers Sc' = S' ∧ Good K w0 Z Sc' (y :: L) a w ∧ Pl y ∧ val1 y = val c := by
  obtain ⟨y, Sc', e1, e2, hG, hfl, hpl, hag, _⟩ := take_good c Sc L h hrd.refOk hrd.wf hrd.ok hrd.fp v' S' ht
  exact ⟨y, Sc', e1, e2, hG, hpl, by rw [← val_of_val1 hpl.not_tup]; exact val_same hfl hpl hag hnt⟩
theorem ares1_good (hT : TabOk P Γ) (h : Good K w0 Z Sc L a w) {x : ResultVar} {v' : AV} {S' : List AV} (hx : ares1 Γ (ers Sc) x = some (v', S')) :
    ∃ y Sc', er y = v' ∧ ers Sc' = S' ∧ Good K w0 Z Sc' (y :: L) a w ∧ Pl y ∧ (resRun a x).run P w = .ok (val1 y) w := by
  cases x with
  | tmp t =>
    simp only [ares1] at hx
    cases hv : ard (ers Sc) (.tmp t) with
    | none => simp [hv] at hx
    | some v =>
      simp only [hv] at hx
      obtain ⟨c, rfl, hval, hrd, hnt⟩ := h.rd hv
      obtain ⟨y, Sc', e1, e2, hG, hpl, e3⟩ := taken h hrd hnt hx
      exact ⟨y, Sc', e1, e2, hG, hpl, by rw [e3, hval]; rfl⟩
  | cell t T =>
    simp only [ares1] at hx
    cases hv : ard (ers Sc) (.tmp t) with
    | none => simp [hv] at hx
    | some v =>
      simp only [hv] at hx
      obtain ⟨c, hc, hval, hrd, hnt⟩ := h.rd hv
      cases v <;> simp only at hx <;> try (cases hx; done)
      rename_i r p
      obtain ⟨ad, rfl⟩ := er_at hc
      obtain ⟨x0, y, h1, h2, h3, h4, h5, h6, h7, h8⟩ := h.node hrd.refOk
      simp only [h8] at hx
      split at hx
      case isFalse => cases hx
      rename_i hf
      have hno := view_noOwn r y p h5
      have hk := view_ok (w := w) (Z := Z) r y p h4
      have hnt' : ∀ xs, cview r p y ≠ .tup xs := view_not_tup (fits_not_tup hf)
      rw [← er_view] at hx
      obtain ⟨u, Sc', e1, e2, hG, hpl, e3⟩ := taken h (c := cview r p y) ⟨view_refOk h1 h2 y p _ h3 h5 h4, view_wf r y p h5, hk, hno.fp _ hk, .inr hno⟩ hnt' hx
      refine ⟨u, Sc', e1, e2, hG, hpl, ?_⟩
      rw [e3, val_view _ _ _ (fits_not_tup hf)]
      have hev : a.tmps.getD t undef = .pointer (some ad) := by
        have : a.eval (.tmp t) = a.tmps.getD t undef := rfl
        rw [← this, ← hval]; rfl
      simp [resRun, hev, asAddr, run_load_fit hT hf h7]
theorem aresL_good (hT : TabOk P Γ) : ∀ (xs : List ResultVar) {Sc L : List CV}, Good K w0 Z Sc L a w → ∀ {vs : List AV} {S' : List AV}, aresL Γ xs (ers Sc) = some (vs, S') →
    ∃ ys Sc', ers ys = vs ∧ ers Sc' = S' ∧ Good K w0 Z Sc' (ys ++ L) a w ∧ PlL ys ∧ (xs.mapM (resRun a)).run P w = .ok (ys.map val1) w
  | [], Sc, L, h, vs, S', hx => by
    simp only [aresL, Option.some.injEq, Prod.mk.injEq] at hx
    obtain ⟨rfl, rfl⟩ := hx
    exact ⟨[], Sc, rfl, rfl, h, by simp [PlL], by simp⟩
  | x :: xs, Sc, L, h, vs, S', hx => by
    simp only [aresL] at hx
    split at hx
    · rename_i v S1 h1
      split at hx
      · rename_i vs2 S2 h2
        simp only [Option.some.injEq, Prod.mk.injEq] at hx
        obtain ⟨rfl, rfl⟩ := hx
        obtain ⟨y, Sc1, e1, e2, hG, hpl, hrun⟩ := ares1_good hT h h1
        subst e2
        obtain ⟨ys, Sc2, f1, f2, hG2, hpl2, hrun2⟩ := aresL_good hT xs hG h2
        refine ⟨y :: ys, Sc2, by simp [ers, e1, f1], f2, ?_, by simp [PlL, hpl, hpl2], ?_⟩
        · refine hG2.beside ?_ ?_ ?_
          · have := (okL_append _ _).1 hG2.ok
            have := (okL_append ys (y :: L)).1 this.2
            simp only [OkL] at this
            simp only [List.cons_append, OkL, okL_append]
            exact ⟨this.2.1, this.1, this.2.2⟩
          · simp only [List.cons_append, fps, fps_append]
            refine Fits.of_perm ?_
            rw [← List.append_assoc, ← List.append_assoc]
            exact List.Perm.append_right _ List.perm_append_comm
          · intro z hz
            refine hG2.nr z ?_
            simp only [List.cons_append, List.mem_cons, List.mem_append] at hz ⊢
            rcases hz with hz | hz | hz
            · exact .inr (.inl hz)
            · exact .inl hz
            · exact .inr (.inr hz)
        · simp [Sem.run_bind, hrun, hrun2]
      · cases hx
    · cases hx

def resVal : List Value → Value
  | [v] => v
  | vs => .tuple vs.toArray
theorem run_results {fn : Func} {vs : List Value} (h : (fn.results.toList.mapM (resRun a)).run P w = .ok vs w) : (results fn a.tmps).run P w = .ok (resVal vs) w := by
  have hm : fn.results.mapM (resRun a) = List.toArray <$> fn.results.toList.mapM (resRun a) := by
    rw [← List.mapM_toArray]
  have hr : results fn a.tmps = (do let vs ← fn.results.mapM (resRun a); pure (if h : vs.size = 1 then vs[0] else .tuple vs)) := by
    unfold results
    congr 1
  rw [hr, hm]
  simp only [Sem.run_bind, Sem.run_map, h, Result.andThen_ok, Sem.run_pure]
  match vs with
  | [] => rfl
  | [v] => rfl
  | v :: u :: vs => simp [resVal]
end
end Go.Bv
