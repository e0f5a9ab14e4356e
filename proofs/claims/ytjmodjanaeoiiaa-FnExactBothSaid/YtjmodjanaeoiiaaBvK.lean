/- The quiet operations: the model's run agrees with their plain meaning. Generic: no program. -/
import Derived.Test.YtjmodjanaeoiiaaBvJ
namespace Go.Bv
open Go Go.RowKit
set_option linter.unusedSimpArgs false
set_option linter.unusedVariables false
section
variable {K : Nat → Prop} {w0 : World} {Z : Nat → Prop} {Sc L : List CV} {a : Act} {w : World} {P : Program} {Γ : Tab}

theorem er_at {c : CV} {r : Nat} {p : List Nat} (h : er c = .at r p) : ∃ ad, c = .at r p ad := by
  cases c <;> simp [er] at h; obtain ⟨rfl, rfl⟩ := h; exact ⟨_, rfl⟩
theorem er_ip {c : CV} {y : AV} (h : er c = .ip y) : ∃ ad z, c = .ip ad z ∧ er z = y := by
  cases c <;> simp [er] at h; exact ⟨_, _, rfl, h⟩
theorem er_int {c : CV} {k : IntKind} {n : Int} (h : er c = .int k n) : c = .int k n := by
  cases c <;> simp [er] at h; obtain ⟨rfl, rfl⟩ := h; rfl
theorem er_bool {c : CV} {b : Bool} (h : er c = .bool b) : c = .bool b := by
  cases c <;> simp [er] at h; subst h; rfl
theorem er_str {c : CV} {s : ByteArray} (h : er c = .str s) : c = .str s := by
  cases c <;> simp [er] at h; subst h; rfl
theorem er_agg {c : CV} {ys : List AV} (h : er c = .agg ys) : ∃ xs, c = .agg xs ∧ ers xs = ys := by
  cases c <;> simp [er] at h; exact ⟨_, rfl, h⟩
theorem er_lst {c : CV} {o : Bool} {s : Nat} {ys : List AV} (h : er c = .lst o s ys) : ∃ A cap xs, c = .lst o s A cap xs ∧ ers xs = ys := by
  cases c <;> simp [er] at h; obtain ⟨rfl, rfl, rfl⟩ := h; exact ⟨_, _, _, rfl, rfl⟩
theorem er_ref {c : CV} {r : Nat} {p : List Nat} {lo n : Nat} (h : er c = .ref r p lo n) : ∃ v, c = .ref r p lo n v := by
  cases c <;> simp [er] at h; obtain ⟨rfl, rfl, rfl, rfl⟩ := h; exact ⟨_, rfl⟩
theorem er_fn {c : CV} {f : Nat} {ys : List AV} (h : er c = .fn f ys) : ∃ xs, c = .fn f xs ∧ ers xs = ys := by
  cases c <;> simp [er] at h; obtain ⟨rfl, rfl⟩ := h; exact ⟨_, rfl, rfl⟩
theorem er_box {c : CV} {y : AV} (h : er c = .box y) : ∃ b ty z, c = .box b ty z ∧ er z = y := by
  cases c <;> simp [er] at h; exact ⟨_, _, _, rfl, h⟩

/-- What lies where a pointer into a slot points. -/
theorem Good.node (h : Good K w0 Z Sc L a w) {r : Nat} {p : List Nat} {ad : Addr} (hr : RefOk Sc (.at r p ad)) :
    ∃ x y, Sc[r]? = some x ∧ Pl (rootC x).1 ∧ cgetN (rootC x).1 (rootC x).2 p = some (y, some ad) ∧ Ok w Z y ∧ Pl y ∧ ad.spot = none ∧ CellsAt w ad (flat y) ∧ aget (ers Sc) r p = some (er y) := by
  simp only [RefOk] at hr
  obtain ⟨x, y, h1, h2, h3⟩ := hr
  have hok := ((okL_cut h1).1 ((okL_append _ _).1 h.ok).1).2.1
  obtain ⟨hs, hc⟩ := cells_get p _ _ y ad h3 (ok_root hok).1 (ok_root hok).2
  exact ⟨x, y, h1, h2, h3, ok_get p _ _ _ _ h3 (ok_root hok).1, Pl.get p _ _ _ _ h3 h2, hs, hc, er_cget (l := some ad) (by simp [cget, h1, h3])⟩

theorem fits_not_tup {T : Nat} {y : CV} (h : fitsA Γ T (er y) = true) : ∀ xs, y ≠ .tup xs := by
  rintro xs rfl
  simp only [fitsA, er] at h
  split at h <;> simp_all

theorem run_isAgg (hT : TabOk P Γ) {T : Nat} (hk : Γ.kind T ≠ .no) (w : World) : (isAgg T).run P w = .ok (match Γ.kind T with | .st _ => true | _ => false) w := by
  unfold isAgg
  cases e : Γ.kind T with
  | int k => simp [run_underlying (hT.int T k e)]
  | bool => simp [run_underlying (hT.bool T e)]
  | str => simp [run_underlying (hT.str T e)]
  | sl E => simp [run_underlying (hT.sl T E e)]
  | st fs => obtain ⟨F, h1, _⟩ := hT.st T fs e; simp [run_underlying h1]
  | ptr => obtain ⟨E, h1⟩ := hT.ptr T e; simp [run_underlying h1]
  | no => exact absurd e hk

theorem run_size (hT : TabOk P Γ) {T : Nat} (hk : Γ.kind T ≠ .no) (w : World) : (sizeOf T).run P w = .ok (Γ.size T) w := by
  obtain ⟨i, h1, h2, _⟩ := hT.size T hk
  simp [sizeOf, typeInfo, h1, h2]

theorem fits_kind {T : Nat} {y : AV} (h : fitsA Γ T y = true) : Γ.kind T ≠ .no := by
  intro e
  simp only [fitsA, e] at h
  cases h

/-- A load of what fits. -/
theorem run_load_fit (hT : TabOk P Γ) {T : Nat} {y : CV} {ad : Addr} (hf : fitsA Γ T (er y) = true) (hc : CellsAt w ad (flat y)) : (loadVar T ad).run P w = .ok (val y) w := by
  have hk := fits_kind hf
  have hnt := fits_not_tup hf
  unfold loadVar
  rw [Sem.run_bind, run_isAgg hT hk]
  simp only [Result.andThen_ok]
  by_cases hagg : ∃ xs, y = .agg xs
  · obtain ⟨xs, rfl⟩ := hagg
    simp only [er, fitsA] at hf
    cases e : Γ.kind T with
    | st fs =>
      simp only [e, beq_iff_eq] at hf
      simp only [Sem.run_bind, run_size hT hk, Result.andThen_ok, if_true]
      rw [alens_er] at hf
      have := run_loadCells_list (P := P) w ad (flats xs) (by simpa [CellsAt, flat] using hc)
      rw [← hf, this]
      simp [val, val1]
    | _ => simp [e] at hf
  · have hfl := flat_one (x := y) fun xs e => hagg ⟨xs, e⟩
    have h0 : w.cell? ad = some (val1 y) := by
      have := hc 0 (val1 y) (by simp [hfl])
      simpa [Addr.add] using this
    have hv : val y = val1 y := by cases y <;> first | rfl | exact absurd rfl (hnt _)
    cases e : Γ.kind T with
    | st fs =>
      exfalso
      cases y <;> simp [fitsA, e, er] at hf
      exact hagg ⟨_, rfl⟩
    | _ => simp [h0, hv]

theorem Rd.lst_false {s : Nat} {A : Option Addr} {c : Nat} {xs : List CV} (h : Ok w Z (.lst false s A c xs)) (hp : PlL xs) : Rd w Z Sc (.lst false s A c xs) :=
  ⟨by simp [RefOk], by simpa only [Wf] using hp, h, by have h' := h; simp only [Ok] at h'; have := h'.2.2.1 (by trivial); simp [Bv.fp, this], .inl (by simpa only [Pl] using hp)⟩

theorem load_sound (hT : TabOk P Γ) (h : Good K w0 Z Sc L a w) {o : Oper} {T : Nat} {x : Operand} (ho : o.op = .load T x) {v : AV} (hv : qv Γ (ers Sc) o = some v) :
    ∃ c, er c = v ∧ (execOp a.eval o).run P w = .ok (.value (val c)) w ∧ Rd w Z Sc c ∧ (∀ xs, c ≠ .tup xs) := by
  simp only [qv, ho] at hv
  cases hx : ard (ers Sc) x with
  | none => simp [hx] at hv
  | some u =>
    obtain ⟨c, hc, hval, hrd, _⟩ := h.rd hx
    subst hc
    simp only [hx] at hv
    unfold execOp
    simp only [ho]
    rw [← hval]
    cases hu : er c <;> simp only [hu] at hv <;> try (cases hv; done)
    · rename_i y
      obtain ⟨ad, z, rfl, rfl⟩ := er_ip hu
      split at hv
      case isFalse => cases hv
      rename_i hf
      simp only [Option.some.injEq] at hv
      subst hv
      have hk := hrd.ok
      simp only [Ok] at hk
      have hw := hrd.wf
      simp only [Wf] at hw
      refine ⟨z, rfl, ?_, ⟨Pl.refOk _ hw, Pl.wf _ hw, hk.2.2.2.2, hk.2.2.2.1, .inl hw⟩, fits_not_tup hf⟩
      simp [val, val1, flat, Instr.loadAt, Instr.sureAddr, run_load_fit hT hf hk.2.2.1]
    · rename_i r p
      obtain ⟨ad, rfl⟩ := er_at hu
      obtain ⟨x0, y, h1, h2, h3, h4, h5, h6, h7, h8⟩ := h.node hrd.refOk
      simp only [h8] at hv
      split at hv
      case isFalse => cases hv
      rename_i hf
      simp only [Option.some.injEq] at hv
      subst hv
      have hno := view_noOwn r y p h5
      have hk := view_ok (w := w) (Z := Z) r y p h4
      refine ⟨cview r p y, er_view _ _ _, ?_, ⟨view_refOk h1 h2 y p _ h3 h5 h4, view_wf r y p h5, hk, hno.fp _ hk, .inr hno⟩, view_not_tup (fits_not_tup hf)⟩
      rw [val_view _ _ _ (fits_not_tup hf)]
      simp [val, val1, flat, Instr.loadAt, Instr.sureAddr, run_load_fit hT hf h7]

theorem fieldOk_run (hT : TabOk P Γ) {T f n : Nat} (hf : fieldOk Γ T f n = true) : ∃ F fd i, P.underlying T = some (.struct F) ∧ F[f]? = some fd ∧ fd.offset = n ∧ P.info? fd.type = some i ∧ i.size ≠ 0 ∧ i.size = Γ.size fd.type := by
  unfold fieldOk at hf
  split at hf
  case h_2 => cases hf
  rename_i fs hk
  split at hf
  case h_2 => cases hf
  rename_i t ht
  simp only [Bool.and_eq_true, bne_iff_ne, ne_eq, beq_iff_eq] at hf
  obtain ⟨⟨h1, h2⟩, h3⟩ := hf
  obtain ⟨F, hF, _, hall⟩ := hT.st T fs hk
  obtain ⟨fd, g1, g2, g3⟩ := hall f t ht
  obtain ⟨i, i1, i2, _⟩ := hT.size t h1
  exact ⟨F, fd, i, hF, g1, by rw [g3, h3], by rw [g2]; exact i1, by rw [i2]; exact h2, by rw [g2]; exact i2⟩

theorem run_fieldAt (hT : TabOk P Γ) {T f n : Nat} (hf : fieldOk Γ T f n = true) (ad : Addr) : (Instr.fieldAt T (.pointer (some ad)) f).run P w = .ok (.pointer (some (ad.add n))) w := by
  obtain ⟨F, fd, i, h1, h2, h3, h4, h5, _⟩ := fieldOk_run hT hf
  simp [Instr.fieldAt, run_underlying h1, h2, Instr.sureAddr, fieldPlace, sizeOf, typeInfo, h4, h5, h3]

theorem fieldAddr_sound (hT : TabOk P Γ) (h : Good K w0 Z Sc L a w) {o : Oper} {T f : Nat} {x : Operand} (ho : o.op = .fieldAddr T x f) {v : AV} (hv : qv Γ (ers Sc) o = some v) :
    ∃ c, er c = v ∧ (execOp a.eval o).run P w = .ok (.value (val c)) w ∧ Rd w Z Sc c ∧ (∀ xs, c ≠ .tup xs) := by
  simp only [qv, ho] at hv
  cases hx : ard (ers Sc) x with
  | none => simp [hx] at hv
  | some u =>
    obtain ⟨c, hc, hval, hrd, _⟩ := h.rd hx
    subst hc
    simp only [hx] at hv
    unfold execOp
    simp only [ho]
    rw [← hval]
    cases hu : er c <;> simp only [hu] at hv <;> try (cases hv; done)
    · rename_i y
      obtain ⟨ad, z, rfl, rfl⟩ := er_ip hu
      cases hz : er z <;> simp only [hz] at hv <;> try (cases hv; done)
      rename_i ys
      obtain ⟨zs, rfl, rfl⟩ := er_agg hz
      cases hf0 : (ers zs)[f]? with
      | none => simp [hf0] at hv
      | some y1 =>
        simp only [hf0] at hv
        split at hv
        case isFalse => cases hv
        rename_i hf
        simp only [Option.some.injEq] at hv
        subst hv
        rw [ers_eq, List.getElem?_map] at hf0
        cases hzf : zs[f]? with
        | none => simp [hzf] at hf0
        | some zf =>
          simp only [hzf, Option.map_some, Option.some.injEq] at hf0
          have hk := hrd.ok
          simp only [Ok] at hk
          obtain ⟨k1, k2, k3, k4, k5⟩ := hk
          have hw := hrd.wf
          simp only [Wf, Pl] at hw
          have hlen : alens ((ers zs).take f) = (flats (zs.take f)).length := by rw [ers_eq, ← List.map_take, ← ers_eq, alens_er]
          have hpf : Pl zf := (plL_iff zs).1 hw zf (List.mem_of_getElem? hzf)
          simp only [flat] at k3
          rw [flats_cut hzf, cellsAt_append k1, cellsAt_append (add_spot k1 _)] at k3
          have hfp0 : fp zf = [] := by
            simp only [fp] at k4
            rw [fps_cut hzf] at k4
            simp at k4; exact k4.2.1
          refine ⟨.ip (ad.add (flats (zs.take f)).length) zf, by simp [er, hf0], ?_, ⟨by simp [RefOk], by simpa only [Wf] using hpf, ?_, by simp [fp], .inl (by simpa only [Pl] using hpf)⟩, by simp⟩
          · rw [hlen] at hf
            simp [val, val1, flat, run_fieldAt hT hf]
          · simp only [Ok]
            exact ⟨add_spot k1 _, by rw [add_block]; exact k2, k3.2.1, hfp0, ((okL_cut hzf).1 k5).2.1⟩
    · rename_i r p
      obtain ⟨ad, rfl⟩ := er_at hu
      obtain ⟨x0, y, h1, h2, h3, h4, h5, h6, h7, h8⟩ := h.node hrd.refOk
      simp only [h8] at hv
      cases hy : er y <;> simp only [hy] at hv <;> try (cases hv; done)
      rename_i ys
      obtain ⟨zs, rfl, rfl⟩ := er_agg hy
      split at hv
      case isFalse => cases hv
      rename_i hf
      simp only [Option.some.injEq] at hv
      subst hv
      have hlen : alens ((ers zs).take f) = (flats (zs.take f)).length := by rw [ers_eq, ← List.map_take, ← ers_eq, alens_er]
      rw [hlen] at hf
      obtain ⟨hlt, hf⟩ := hf
      have hlt' : f < zs.length := by simpa [ers_eq] using hlt
      refine ⟨.at r (p ++ [f]) (ad.add (flats (zs.take f)).length), by simp [er], by simp [val, val1, flat, run_fieldAt hT hf], ⟨?_, by simp [Wf], by simp [Ok], by simp [fp], .inr (by simp [NoOwn])⟩, by simp⟩
      simp only [RefOk]
      refine ⟨x0, zs[f], h1, h2, ?_⟩
      rw [get_append, h3]
      simp [cgetN, List.getElem?_eq_getElem hlt']
end
end Go.Bv
