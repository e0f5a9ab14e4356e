/- Operations that turn the frame or make memory: assign, box, alloc, store, extract. Generic: no program. -/
import Derived.Test.YtjmodjanaeoiiaaBvO
import Derived.Laws.NewBlocks
namespace Go.Bv
open Go Go.RowKit
set_option linter.unusedSimpArgs false
set_option linter.unusedVariables false

/-- Can nothing lean on what lies below it? -/
def scalarA : AV → Bool
  | .bool _ | .int _ _ | .str _ | .undef | .ip _ => true
  | _ => false
def isAggA : AV → Bool
  | .agg _ => true
  | _ => false
def asetq (S : List AV) (r : Nat) (p : List Nat) (v old : AV) : List AV := if scalarA old = true ∧ scalarA v = true then aset S r p v else asetc S r p v

section
variable {K : Nat → Prop} {w0 : World} {Z : Nat → Prop} {Sc L : List CV} {a : Act} {w : World} {P : Program} {Γ : Tab}

theorem heap_alloc_ne (w : World) (o : Obj) {b : Nat} (h : b < w.heap.size) : (w.alloc o).heap[b]? = w.heap[b]? := heap_alloc_old w o b h
theorem size_alloc (w : World) (o : Obj) : (w.alloc o).heap.size = w.heap.size + 1 := by show (w.heap.push o).size = _; simp

/-- A world in which all that stood stands. -/
theorem Good.world (h : Good K w0 Z Sc L a w) {w' : World} (hb : ∀ b, b < w.heap.size → w'.heap[b]? = w.heap[b]?) (hs : w.heap.size ≤ w'.heap.size) (ho : w'.os = w.os) (ht : w'.tape = w.tape) (hu : w'.output = w.output) : Good K w0 Z Sc L a w' where
  defers := h.defers
  size := h.size
  tmps := h.tmps
  ok := OkL.congr (fun _ h => h) (fun b hz => hb b (h.lt b (.inr hz))) _ (fun b hf => hb b (h.lt b (.inl hf))) h.ok
  nodup := h.nodup
  apart := h.apart
  lt := fun b hb' => Nat.lt_of_lt_of_le (h.lt b hb') hs
  refs := h.refs
  wf := h.wf
  sorted := h.sorted
  nr := h.nr
  kept := fun b hk => ⟨(h.kept b hk).1, (h.kept b hk).2.1, (hb b (Nat.lt_of_lt_of_le (h.kept b hk).1 h.grew)).trans (h.kept b hk).2.2⟩
  os := ho.trans h.os
  tape := ht.trans h.tape
  output := hu.trans h.output
  grew := Nat.le_trans h.grew hs
theorem Good.alloc (h : Good K w0 Z Sc L a w) (o : Obj) : Good K w0 Z Sc L a (w.alloc o) :=
  h.world (fun b hb => heap_alloc_ne w o hb) (by rw [size_alloc]; omega) rfl rfl rfl

theorem fresh_not (h : Good K w0 Z Sc L a w) : w.heap.size ∉ fps (Sc ++ L) ∧ ¬ Z w.heap.size :=
  ⟨fun hm => Nat.lt_irrefl _ (h.lt _ (.inl hm)), fun hz => Nat.lt_irrefl _ (h.lt _ (.inr hz))⟩

/-- What stands beside the frame goes into a new block of its own. -/
theorem Good.block {M : List CV} {c : CV} {o : Obj} (h : Good K w0 Z Sc (M ++ L) a w) (hfp : Fits (fp c) (w.heap.size :: fps M)) (hok : Ok (w.alloc o) Z c) (hn : NR c) : Good K w0 Z Sc (c :: L) a (w.alloc o) := by
  have ha := h.alloc o
  obtain ⟨f1, f2⟩ := fresh_not h
  have hfit : Fits (fps (Sc ++ c :: L)) (w.heap.size :: fps (Sc ++ (M ++ L))) := by
    have e1 : fps (Sc ++ c :: L) = fps Sc ++ (fp c ++ fps L) := by simp [fps_append, fps]
    have e2 : w.heap.size :: fps (Sc ++ (M ++ L)) = w.heap.size :: (fps Sc ++ (fps M ++ fps L)) := by simp [fps_append]
    rw [e1, e2]
    refine Fits.trans (b := fps Sc ++ ((w.heap.size :: fps M) ++ fps L)) ⟨fun hnd => ?_, fun b hb => ?_⟩ (Fits.of_perm ?_)
    · rw [List.nodup_append, List.nodup_append (l₂ := fps L)] at hnd ⊢
      obtain ⟨n1, ⟨n2, n3, n4⟩, n5⟩ := hnd
      exact ⟨n1, ⟨hfp.nodup n2, n3, fun a ha b hb => n4 a (hfp.sub a ha) b hb⟩, fun a ha b hb => n5 a ha b (by
        rcases List.mem_append.1 hb with hb | hb
        · exact List.mem_append.2 (.inl (hfp.sub b hb))
        · exact List.mem_append.2 (.inr hb))⟩
    · rcases List.mem_append.1 hb with hb | hb
      · exact List.mem_append.2 (.inl hb)
      · rcases List.mem_append.1 hb with hb | hb
        · exact List.mem_append.2 (.inr (List.mem_append.2 (.inl (hfp.sub b hb))))
        · exact List.mem_append.2 (.inr (List.mem_append.2 (.inr hb)))
    · simp only [List.cons_append]
      exact List.perm_middle
  have hnd : (w.heap.size :: fps (Sc ++ (M ++ L))).Nodup := List.nodup_cons.2 ⟨f1, h.nodup⟩
  refine { ha with ok := ?_, nodup := hfit.nodup hnd, apart := fun b hb => ?_, lt := fun b hb => ?_, nr := ?_, kept := fun b hk => ⟨(ha.kept b hk).1, fun hm => ?_, (ha.kept b hk).2.2⟩ }
  · have := (okL_append _ _).1 ha.ok
    rw [okL_append]
    exact ⟨this.1, hok, ((okL_append _ _).1 this.2).2⟩
  · rcases List.mem_cons.1 (hfit.sub b hb) with rfl | hb
    · exact f2
    · exact h.apart b hb
  · rw [size_alloc]
    rcases hb with hb | hb
    · rcases List.mem_cons.1 (hfit.sub b hb) with rfl | hb
      · omega
      · have := h.lt b (.inl hb); omega
    · have := h.lt b (.inr hb); omega
  · intro x hx
    rcases List.mem_cons.1 hx with rfl | hx
    · exact hn
    · exact h.nr x (by simp [hx])
  · rcases List.mem_cons.1 (hfit.sub b hm) with rfl | hm
    · exact absurd (Nat.lt_of_lt_of_le (h.kept _ hk).1 h.grew) (Nat.lt_irrefl _)
    · exact (h.kept b hk).2.1 hm

/-- What is told of an operation that turns the frame: some frame, some world, told by the plain step. -/
def ES (P : Program) (K : Nat → Prop) (w0 : World) (Z : Nat → Prop) (L : List CV) (a : Act) (w : World) (o : Oper) (S2 : List AV) : Prop :=
  ∀ Q, o.wp P a w (fun a' w' => ∃ Sc, ers Sc = S2 ∧ Good K w0 Z Sc L a' w') Q

theorem es_value {o : Oper} {v : Value} {w' : World} (hr : (execOp a.eval o).run P w = .ok (.value v) w') {Sc' : List CV} {S2 : List AV} (he : ers Sc' = S2) (hg : Good K w0 Z Sc' L (a.put o.dst v) w') : ES P K w0 Z L a w o S2 := by
  intro Q
  unfold Oper.wp
  rw [hr]
  exact ⟨Sc', he, hg⟩
theorem es_skip {o : Oper} {w' : World} (hr : (execOp a.eval o).run P w = .ok .skip w') {Sc' : List CV} {S2 : List AV} (he : ers Sc' = S2) (hg : Good K w0 Z Sc' L (a.put o.dst undef) w') : ES P K w0 Z L a w o S2 := by
  intro Q
  unfold Oper.wp
  rw [hr]
  exact ⟨Sc', he, hg⟩

theorem Good.putRd (h : Good K w0 Z Sc L a w) (dst : Option Nat) {c : CV} (hr : Rd w Z Sc c) : Good K w0 Z (cput dst c Sc) L (a.put dst (val c)) w :=
  (h.add (c := .bool false) (by simp [Ok]) (by simp [fp]) (by simp [NR, Pl])).putG dst hr.ok (by rw [hr.fp]; simp only [fp]; exact Fits.refl _) hr.refOk hr.wf (hr.sorted.imp Pl.nr id)

theorem val_same {x y : CV} (h : flat y = flat x) (hy : Pl y) (ha : (∃ ys, y = .agg ys) ↔ (∃ ys, x = .agg ys)) (hx : ∀ ys, x ≠ .tup ys) : val y = val x :=
  val_of_flat hy.not_tup hx ha h

theorem assign_sound (h : Good K w0 Z Sc L a w) {o : Oper} {x : Operand} (ho : o.op = .assign x) {v : AV} (hx : ard (ers Sc) x = some v) :
    (arefs v = [] → ES P K w0 Z L a w o (aput o.dst v (ers Sc))) ∧ (∀ v' S', atake (ers Sc) v = some (v', S') → ES P K w0 Z L a w o (aput o.dst v' S')) := by
  obtain ⟨c, rfl, hval, hrd, hnt⟩ := h.rd hx
  have hrun : (execOp a.eval o).run P w = .ok (.value (val c)) w := by unfold execOp; simp [ho, hval]
  refine ⟨fun _ => es_value hrun (er_cput _ _ _) (h.putRd o.dst hrd), fun v' S' ht => ?_⟩
  obtain ⟨y, Sc', e1, e2, hG, hfl, hpl, hag, _⟩ := take_good c Sc L h hrd.refOk hrd.wf hrd.ok hrd.fp v' S' ht
  have hv : val y = val c := val_same hfl hpl hag hnt
  have := hG.put o.dst
  rw [hv] at this
  exact es_value hrun (by rw [er_cput, e1, e2]) this

theorem cells_val {c : CV} (h : Pl c) : (val c).cells = (flat c).toArray := by
  by_cases ha : ∃ xs, c = .agg xs
  · obtain ⟨xs, rfl⟩ := ha; rfl
  · have hf := flat_one (x := c) fun xs e => ha ⟨xs, e⟩
    have h1 := Pl.one c h (val1 c) (by rw [hf]; simp)
    rw [val_of_val1 h.not_tup, hf]
    revert h1
    cases val1 c <;> simp [Value.cells, Value.oneCell']


theorem run_newRow (E : TypeId) (cs : Array Value) : (newRow E cs).run P w = .ok ⟨w.heap.size, 0, none⟩ (w.alloc (.cells cs E)) := by
  simp [newRow]

theorem box_sound (h : Good K w0 Z Sc L a w) {o : Oper} {T : Nat} {x : Operand} (ho : o.op = .box T x) {v : AV} (hx : ard (ers Sc) x = some v) {v' : AV} {S' : List AV} (ht : atake (ers Sc) v = some (v', S')) :
    ES P K w0 Z L a w o (aput o.dst (.box v') S') := by
  obtain ⟨c, rfl, hval, hrd, hnt⟩ := h.rd hx
  obtain ⟨y, Sc', e1, e2, hG, hfl, hpl, hag, _⟩ := take_good c Sc L h hrd.refOk hrd.wf hrd.ok hrd.fp v' S' ht
  have hv : val y = val c := val_same hfl hpl hag hnt
  have hoky := ((okL_append _ _).1 ((okL_append Sc' (y :: L)).1 hG.ok |>.2 |> fun p => (okL_append [y] L).2 ⟨by simpa [OkL] using p.1, p.2⟩)).1
  have hoky' : Ok w Z y := by simpa [OkL] using hoky
  have hG2 := hG.block (M := [y]) (c := .box w.heap.size T y) (o := .cells (flat y).toArray T) ?_ ?_ hpl
  · have h3 := hG2.put o.dst
    refine es_value (w' := w.alloc (.cells (flat y).toArray T)) ?_ ?_ h3
    · unfold execOp
      simp only [ho]
      rw [← hval, ← hv]
      simp only [Instr.box, newVar, Sem.run_bind, cells_val hpl, run_newRow, Result.andThen_ok, Sem.run_pure]
      rfl
    · rw [er_cput, e2]; simp [er, e1]
  · simp only [fp, fps, List.append_nil]; exact Fits.refl _
  · simp only [Ok]
    refine ⟨heap_alloc_new w _, ?_⟩
    have hG' := hG.alloc (.cells (flat y).toArray T)
    have := (okL_append _ _).1 hG'.ok
    exact this.2.1

mutual
theorem zcells_ok : ∀ z : AV, zplain z = true → ∃ c, er c = z ∧ flat c = zcells z ∧ Pl c ∧ fp c = [] ∧ ∀ w Z, Ok w Z c
  | .bool b, _ => ⟨.bool b, rfl, rfl, by simp [Pl], by simp [fp], by simp [Ok]⟩
  | .int k n, _ => ⟨.int k n, rfl, rfl, by simp [Pl], by simp [fp], by simp [Ok]⟩
  | .str s, _ => ⟨.str s, rfl, rfl, by simp [Pl], by simp [fp], by simp [Ok]⟩
  | .lst true 0 [], _ => ⟨.lst true 0 none 0 [], rfl, rfl, by simp [Pl, PlL], by simp [fp, fps], by simp [Ok, OkL, HdrOk, flats]⟩
  | .lst true 0 (_ :: _), h => by simp [zplain] at h
  | .lst true (_ + 1) _, h => by simp [zplain] at h
  | .lst false _ _, h => by simp [zplain] at h
  | .agg xs, h => by
    simp only [zplain] at h
    obtain ⟨cs, h1, h2, h3, h4, h5⟩ := zcellss_ok xs h
    exact ⟨.agg cs, by simp [er, h1], by simp [flat, zcells, h2], by simpa [Pl] using h3, by simpa [fp] using h4, fun w Z => by simpa [Ok] using h5 w Z⟩
  | .undef, h | .tup _, h | .fn _ _, h | .ip _, h | .at _ _, h | .ref _ _ _ _, h | .box _, h => by simp [zplain] at h
theorem zcellss_ok : ∀ zs : List AV, zplains zs = true → ∃ cs, ers cs = zs ∧ flats cs = zcellss zs ∧ PlL cs ∧ fps cs = [] ∧ ∀ w Z, OkL w Z cs
  | [], _ => ⟨[], rfl, rfl, by simp [PlL], rfl, by simp [OkL]⟩
  | z :: zs, h => by
    simp only [zplains, Bool.and_eq_true] at h
    obtain ⟨c, h1, h2, h3, h4, h5⟩ := zcells_ok z h.1
    obtain ⟨cs, g1, g2, g3, g4, g5⟩ := zcellss_ok zs h.2
    exact ⟨c :: cs, by simp [ers, h1, g1], by simp [flats, zcellss, h2, g2], by simp [PlL, h3, g3], by simp [fps, h4, g4], fun w Z => by simp [OkL, h5 w Z, g5 w Z]⟩
end

theorem alloc_sound (hT : TabOk P Γ) (h : Good K w0 Z Sc L a w) {o : Oper} {T : Nat} (ho : o.op = .alloc T) {z : AV} (hz : Γ.zero T = some z) : ES P K w0 Z L a w o (aput o.dst (.box z) (ers Sc)) := by
  obtain ⟨hp, i, v, h1, h2, h3, _⟩ := hT.zero T z hz
  obtain ⟨c, e1, e2, e3, e4, e5⟩ := zcells_ok z hp
  have hG := (h.add (e5 w Z) e4 e3.nr).block (M := [c]) (c := .box w.heap.size T c) (o := .cells (flat c).toArray T) (by simp only [fp, fps, List.append_nil]; exact Fits.refl _)
    (by simp only [Ok]; exact ⟨heap_alloc_new w _, e5 _ _⟩) e3
  refine es_value (w' := w.alloc (.cells (flat c).toArray T)) ?_ ?_ (hG.put o.dst)
  · unfold execOp
    have hc : v.cells = (flat c).toArray := by apply Array.ext'; simp [h3, e2]
    simp only [ho, Instr.alloc, zeroValue, typeInfo, Sem.run_bind, run_program, Result.andThen_ok, h1, h2, Sem.run_pure, newVar, hc, run_newRow]
    rfl
  · rw [er_cput]; simp [er, e1]

/-- A slot that nothing leans on gives up (a part of) what it holds. -/
theorem Good.swap (h : Good K w0 Z Sc L a w) {t : Nat} {x x' c : CV} (ht : Sc[t]? = some x) (hroot : ¬ Pl (rootC x).1) (hv : val x' = val x) (hk : Ok w Z x') (hc : Ok w Z c) (hf : Fits (fp x' ++ fp c) (fp x))
    (hr : RefOk Sc x') (hm : men t x' = false) (hw : Wf x') (hs : NR x' ∨ NoOwn x') (hn : NR c) (hme : ∀ y ∈ Sc, men t y = false) : Good K w0 Z (Sc.set t x') (c :: L) a w := by
  have hokA := (okL_append _ _).1 h.ok
  have hokc := (okL_cut ht).1 hokA.1
  have hl := (List.getElem?_eq_some_iff.1 ht).1
  have hput : ∀ y, men t y = false → RefOk Sc y → RefOk (Sc.set t x') y := fun y hm hy =>
    RefOk.put (d := t) (fun r z hr' hz _ => by rw [List.getElem?_set_ne (Ne.symm hr')]; exact hz) y hm hy
  refine h.turn (by simp) (fun u => ?_) ?_ ?_ ?_ ?_ ?_ ?_
  · by_cases e : t = u
    · subst e; rw [List.getElem?_set_self hl, ht]; simp [hv]
    · rw [List.getElem?_set_ne e]
  · rw [okL_append, okL_set ht]
    exact ⟨⟨hokc.1, hk, hokc.2.2⟩, hc, hokA.2⟩
  · have e1 : fps (Sc.set t x' ++ c :: L) = fps (Sc.take t) ++ (fp x' ++ (fps (Sc.drop (t + 1)) ++ (fp c ++ fps L))) := by rw [set_at _ ht]; simp [fps_append, fps]
    have e2 : fps (Sc ++ L) = fps (Sc.take t) ++ (fp x ++ (fps (Sc.drop (t + 1)) ++ fps L)) := by rw [fps_append, fps_cut ht]; simp
    rw [e1, e2]
    refine Fits.trans (b := fps (Sc.take t) ++ ((fp x' ++ fp c) ++ (fps (Sc.drop (t + 1)) ++ fps L))) (Fits.of_perm (List.Perm.append_left _ ?_)) ⟨fun hnd => ?_, fun b hb => ?_⟩
    · rw [List.append_assoc]
      refine List.Perm.append_left _ ?_
      rw [← List.append_assoc, ← List.append_assoc]
      exact List.Perm.append_right _ List.perm_append_comm
    · rw [List.nodup_append, List.nodup_append (l₁ := fp x)] at hnd
      rw [List.nodup_append, List.nodup_append (l₁ := fp x' ++ fp c)]
      obtain ⟨n1, ⟨n2, n3, n4⟩, n5⟩ := hnd
      exact ⟨n1, ⟨hf.nodup n2, n3, fun a ha b hb => n4 a (hf.sub a ha) b hb⟩, fun a ha b hb => n5 a ha b (by
        rcases List.mem_append.1 hb with hb | hb
        · exact List.mem_append.2 (.inl (hf.sub b hb))
        · exact List.mem_append.2 (.inr hb))⟩
    · rcases List.mem_append.1 hb with hb | hb
      · exact List.mem_append.2 (.inl hb)
      · rcases List.mem_append.1 hb with hb | hb
        · exact List.mem_append.2 (.inr (List.mem_append.2 (.inl (hf.sub b hb))))
        · exact List.mem_append.2 (.inr (List.mem_append.2 (.inr hb)))
  · intro z hz
    rcases List.mem_or_eq_of_mem_set hz with hz | rfl
    · exact hput z (hme z hz) (h.refs z hz)
    · exact hput z hm hr
  · intro z hz
    rcases List.mem_or_eq_of_mem_set hz with hz | rfl
    · exact h.wf z hz
    · exact hw
  · intro z hz
    rcases List.mem_or_eq_of_mem_set hz with hz | rfl
    · exact h.sorted z hz
    · exact hs
  · intro z hz
    rcases List.mem_cons.1 hz with rfl | hz
    · exact hn
    · exact h.nr z hz

mutual
theorem RefOk.noroot {t : Nat} {x0 : CV} (ht : Sc[t]? = some x0) (hr : ¬ Pl (rootC x0).1) : ∀ y : CV, RefOk Sc y → men t y = false
  | .at r p ad, h => by
    simp only [RefOk] at h
    obtain ⟨x, y, h1, h2, _⟩ := h
    simp only [Bv.men, beq_eq_false_iff_ne]
    rintro rfl; rw [ht] at h1; cases h1; exact hr h2
  | .ref r p lo n v, h => by
    simp only [RefOk] at h
    obtain ⟨x, s, A, c, xs, l, h1, h2, _⟩ := h
    simp only [Bv.men, beq_eq_false_iff_ne]
    rintro rfl; rw [ht] at h1; cases h1; exact hr h2
  | .agg xs, h => by simp only [Bv.men, RefOk] at h ⊢; exact RefOkL.noroot ht hr xs h
  | .tup xs, h => by simp only [Bv.men, RefOk] at h ⊢; exact RefOkL.noroot ht hr xs h
  | .fn _ xs, h => by simp only [Bv.men, RefOk] at h ⊢; exact RefOkL.noroot ht hr xs h
  | .undef _, _ | .bool _, _ | .int _ _, _ | .str _, _ | .lst _ _ _ _ _, _ | .ip _ _, _ | .box _ _ _, _ => by simp [Bv.men]
theorem RefOkL.noroot {t : Nat} {x0 : CV} (ht : Sc[t]? = some x0) (hr : ¬ Pl (rootC x0).1) : ∀ ys : List CV, RefOkL Sc ys → mens t ys = false
  | [], _ => by simp [mens]
  | y :: ys, h => by simp only [RefOkL] at h; simp [mens, RefOk.noroot ht hr y h.1, RefOkL.noroot ht hr ys h.2]
end

theorem extract_sound (h : Good K w0 Z Sc L a w) {o : Oper} {t i : Nat} (ho : o.op = .extract (.tmp t) i) {vs : List AV} {v : AV} (ht : (ers Sc)[t]? = some (.tup vs)) (hi : vs[i]? = some v) (hpl : plA v = true) :
    ES P K w0 Z L a w o (aput o.dst v ((ers Sc).set t (.tup (vs.set i .undef)))) := by
  rw [ers_eq, List.getElem?_map] at ht
  cases hx : Sc[t]? with
  | none => simp [hx] at ht
  | some x =>
    simp only [hx, Option.map_some, Option.some.injEq] at ht
    have hxt : ∃ cs, x = .tup cs ∧ ers cs = vs := by cases x <;> simp [er] at ht; exact ⟨_, rfl, ht⟩
    obtain ⟨cs, rfl, rfl⟩ := hxt
    rw [ers_eq, List.getElem?_map] at hi
    cases hc : cs[i]? with
    | none => simp [hc] at hi
    | some c =>
      simp only [hc, Option.map_some, Option.some.injEq] at hi
      subst hi
      have hP := pl_er c hpl
      have hmem := List.mem_of_getElem? hx
      have hok : Ok w Z (.tup cs) := ((okL_cut hx).1 ((okL_append _ _).1 h.ok).1).2.1
      simp only [Ok] at hok
      have hoc := (okL_cut hc).1 hok
      have hroot : ¬ Pl (rootC (.tup cs)).1 := by simp [rootC, Pl]
      have hnr : NR (.tup cs) := by
        rcases h.sorted _ hmem with hn | hn
        · exact hn
        · simp [NoOwn] at hn
      have hnr' : NR (.tup (cs.set i (.undef (val1 c)))) := by
        simp only [NR] at hnr ⊢
        intro y hy
        rcases List.mem_or_eq_of_mem_set hy with hy | rfl
        · exact hnr y hy
        · exact .inl ⟨_, rfl⟩
      have hvals : val (.tup (cs.set i (.undef (val1 c)))) = val (.tup cs) := by
        simp only [val]
        congr 1
        apply Array.ext'
        simp only
        rw [List.map_set]
        have : val1 (.undef (val1 c)) = val1 c := by simp [val1, flat]
        rw [this]
        apply List.ext_getElem?
        intro j
        by_cases e : i = j
        · subst e
          obtain ⟨hl, hcc⟩ := List.getElem?_eq_some_iff.1 hc
          simp [hl, hcc]
        · rw [List.getElem?_set_ne e]
      have hG := h.swap (x' := .tup (cs.set i (.undef (val1 c)))) (c := c) hx hroot hvals (by simp only [Ok]; rw [okL_set hc]; exact ⟨hoc.1, by simp [Ok], hoc.2.2⟩) hoc.2.1
        (by
          simp only [fp]
          rw [set_at _ hc, fps_cut hc]
          simp only [fps_append, fps, fp, List.nil_append]
          refine Fits.of_perm ?_
          rw [List.append_assoc]
          exact List.Perm.append_left _ List.perm_append_comm)
        hnr'.refOk hnr'.men hnr'.wf (.inl hnr') hP.nr (fun y hy => RefOk.noroot hx hroot y (h.refs y hy))
      have h3 := hG.put o.dst
      refine es_value (w' := w) ?_ ?_ h3
      · have hev := h.eval_tmp hx
        unfold execOp
        rw [val_of_val1 hP.not_tup]
        simp only [ho, hev, val, Instr.extract]
        have : (cs.map val1).toArray[i]? = some (val1 c) := by simp [hc]
        rw [this]
        simp
      · rw [er_cput]
        congr 1
        simp [ers_eq, List.map_set, er]

theorem movetup_sound (h : Good K w0 Z Sc L a w) {o : Oper} {t : Nat} (ho : o.op = .move (.tmp t)) {vs : List AV} (ht : (ers Sc)[t]? = some (.tup vs)) :
    ES P K w0 Z L a w o (aput o.dst (.tup vs) ((ers Sc).set t .undef)) := by
  rw [ers_eq, List.getElem?_map] at ht
  cases hx : Sc[t]? with
  | none => simp [hx] at ht
  | some x =>
    simp only [hx, Option.map_some, Option.some.injEq] at ht
    have hxt : ∃ cs, x = .tup cs ∧ ers cs = vs := by cases x <;> simp [er] at ht; exact ⟨_, rfl, ht⟩
    obtain ⟨cs, rfl, rfl⟩ := hxt
    have hmem := List.mem_of_getElem? hx
    have hok : Ok w Z (.tup cs) := ((okL_cut hx).1 ((okL_append _ _).1 h.ok).1).2.1
    have hroot : ¬ Pl (rootC (.tup cs)).1 := by simp [rootC, Pl]
    have hnr : NR (.tup cs) := by
      rcases h.sorted _ hmem with hn | hn
      · exact hn
      · simp [NoOwn] at hn
    have hG := h.swap (x' := .undef (val (.tup cs))) (c := .tup cs) hx hroot (val_undef _) (by simp [Ok]) hok (by simp only [fp, List.nil_append]; exact Fits.refl _) (by simp [RefOk]) (by simp [men]) (by simp [Wf]) (.inr (by simp [NoOwn])) hnr
      (fun y hy => RefOk.noroot hx hroot y (h.refs y hy))
    refine es_value (w' := w) ?_ ?_ (hG.put o.dst)
    · unfold execOp
      simp [ho, h.eval_tmp hx]
    · rw [er_cput]
      simp [ers_eq, List.map_set, er]
end
end Go.Bv
