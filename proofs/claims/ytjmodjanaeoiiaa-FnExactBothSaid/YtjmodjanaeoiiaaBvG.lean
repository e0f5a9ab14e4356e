/- Reading slots; taking what a read value leans on out of its place. Generic: no program. -/
import Derived.Test.YtjmodjanaeoiiaaBvF
namespace Go.Bv
open Go Go.RowKit
set_option linter.unusedSimpArgs false
set_option linter.unusedVariables false

theorem ok_same {w : World} {Z : Nat → Prop} : ∀ (p : List Nat) (x : CV) (l : Option Addr) (y : CV) (l' : Option Addr) (y' : CV), cgetN x l p = some (y, l') → flat y' = flat y → Ok w Z y' →
    flat (csetN x p y') = flat x ∧ (Ok w Z x → Ok w Z (csetN x p y'))
  | [], x, l, y, l', y', h, hf, hk => by
    simp only [cgetN, Option.some.injEq, Prod.mk.injEq] at h
    simp only [csetN]; exact ⟨by rw [hf, h.1], fun _ => hk⟩
  | i :: p, x, l, y, l', y', h, hf, hk => by
    cases x <;> simp only [cgetN] at h <;> try (cases h; done)
    · rename_i o s A c xs
      split at h
      · cases h
      rename_i ho
      split at h
      case h_2 => cases h
      rename_i z hz
      obtain ⟨h1, h2⟩ := ok_same p z _ y l' y' h hf hk
      have hfl : flats (xs.set i (csetN z p y')) = flats xs := by rw [flats_set hz, h1, ← flats_cut hz]
      simp only [csetN, hz]
      refine ⟨by simp [flat], fun hx => ?_⟩
      simp only [Ok] at hx ⊢
      obtain ⟨a1, a2, a3, a4⟩ := hx
      refine ⟨by rw [hfl]; simpa using a1, ?_, fun e => absurd e ho, ?_⟩
      · intro u hu
        rcases List.mem_or_eq_of_mem_set hu with hu | rfl
        · exact a2 u hu
        · rw [h1]; exact a2 z (List.mem_of_getElem? hz)
      · rw [okL_set hz]
        have := (okL_cut hz).1 a4
        exact ⟨this.1, h2 this.2.1, this.2.2⟩
    · rename_i xs
      split at h
      case h_2 => cases h
      rename_i z hz
      obtain ⟨h1, h2⟩ := ok_same p z _ y l' y' h hf hk
      simp only [csetN, hz, flat]
      refine ⟨by rw [flats_set hz, h1, ← flats_cut hz], fun hx => ?_⟩
      simp only [Ok] at hx ⊢
      rw [okL_set hz]
      have := (okL_cut hz).1 hx
      exact ⟨this.1, h2 this.2.1, this.2.2⟩

theorem ok_get {w : World} {Z : Nat → Prop} : ∀ (p : List Nat) (x : CV) (l : Option Addr) (y : CV) (l' : Option Addr), cgetN x l p = some (y, l') → Ok w Z x → Ok w Z y
  | [], x, l, y, l', h, hk => by simp only [cgetN, Option.some.injEq, Prod.mk.injEq] at h; exact h.1 ▸ hk
  | i :: p, x, l, y, l', h, hk => by
    cases x <;> simp only [cgetN] at h <;> try (cases h; done)
    · split at h
      · cases h
      split at h
      case h_2 => cases h
      rename_i z hz
      simp only [Ok] at hk
      exact ok_get p z _ y l' h ((okL_cut hz).1 hk.2.2.2).2.1
    · split at h
      case h_2 => cases h
      rename_i z hz
      simp only [Ok] at hk
      exact ok_get p z _ y l' h ((okL_cut hz).1 hk).2.1
/-- What lies at a place lies in memory. -/
theorem cells_get {w : World} {Z : Nat → Prop} : ∀ (p : List Nat) (x : CV) (l : Option Addr) (y : CV) (a : Addr), cgetN x l p = some (y, some a) → Ok w Z x →
    (∀ b, l = some b → b.spot = none ∧ CellsAt w b (flat x)) → a.spot = none ∧ CellsAt w a (flat y)
  | [], x, l, y, a, h, hk, hl => by
    simp only [cgetN, Option.some.injEq, Prod.mk.injEq] at h
    obtain ⟨rfl, rfl⟩ := h
    exact hl a rfl
  | i :: p, x, l, y, a, h, hk, hl => by
    cases x <;> simp only [cgetN] at h <;> try (cases h; done)
    · rename_i o s A c xs
      split at h
      · cases h
      split at h
      case h_2 => cases h
      rename_i z hz
      simp only [Ok] at hk
      obtain ⟨a1, a2, a3, a4⟩ := hk
      have hi := (List.getElem?_eq_some_iff.1 hz).1
      refine cells_get p z _ y a h ((okL_cut hz).1 a4).2.1 fun b hb => ?_
      rcases a1.2.1 with h0 | ⟨ad, rfl, hs, hc, _⟩
      · omega
      · simp only [Option.map_some, Option.some.injEq] at hb
        subst hb
        refine ⟨add_spot hs _, ?_⟩
        rw [flats_cut hz, cellsAt_append hs, cellsAt_append (add_spot hs _)] at hc
        have : (flats (xs.take i)).length = i * s := by
          rw [flats_len_of (s := s) fun x hx => a2 x (List.mem_of_mem_take hx)]; simp [Nat.min_eq_left (Nat.le_of_lt hi)]
        rw [this] at hc
        exact hc.2.1
    · rename_i xs
      split at h
      case h_2 => cases h
      rename_i z hz
      simp only [Ok] at hk
      refine cells_get p z _ y a h ((okL_cut hz).1 hk).2.1 fun b hb => ?_
      cases l with
      | none => simp at hb
      | some b0 =>
        simp only [Option.map_some, Option.some.injEq] at hb
        subst hb
        obtain ⟨h1, h2⟩ := hl b0 rfl
        simp only [flat] at h2
        rw [flats_cut hz, cellsAt_append h1, cellsAt_append (add_spot h1 _)] at h2
        exact ⟨add_spot h1 _, h2.2.1⟩

theorem val_of_flat {x y : CV} (hx : ∀ xs, x ≠ .tup xs) (hy : ∀ xs, y ≠ .tup xs) (ha : (∃ xs, x = .agg xs) ↔ (∃ ys, y = .agg ys)) (h : flat x = flat y) : val x = val y := by
  cases x <;> cases y <;> simp_all [val, val1, flat]

theorem flat_one {x : CV} (h : ∀ xs, x ≠ .agg xs) : flat x = [val1 x] := by
  cases x <;> simp_all [flat, val1]

section
variable {K : Nat → Prop} {w0 : World} {Z : Nat → Prop} {Sc L : List CV} {a : Act} {w : World}

theorem ok_root {x : CV} (h : Ok w Z x) : Ok w Z (rootC x).1 ∧ (∀ b, (rootC x).2 = some b → b.spot = none ∧ CellsAt w b (flat (rootC x).1)) := by
  cases x <;> try exact ⟨h, by simp [rootC]⟩
  rename_i b ty x
  simp only [Ok] at h
  simp only [rootC, Option.some.injEq]
  refine ⟨h.2, ?_⟩
  rintro _ rfl
  refine ⟨rfl, ?_⟩
  rw [cellsAt_iff rfl]
  intro j v hj
  simp [World.cell?, h.1, hj]

theorem root_cases {x : CV} (h : Pl (rootC x).1) : (∃ b ty z, x = .box b ty z ∧ Pl z) ∨ (Pl x ∧ rootC x = (x, none) ∧ ∀ p y, csetR x p y = csetN x p y) := by
  cases x <;> first | exact .inl ⟨_, _, _, rfl, h⟩ | exact .inr ⟨h, rfl, fun _ _ => rfl⟩
theorem agg_set : ∀ (p : List Nat) {x : CV} {l : Option Addr} {y y' : CV} {l' : Option Addr}, cgetN x l p = some (y, l') → ((∃ xs, y = .agg xs) ↔ (∃ xs, y' = .agg xs)) → ((∃ xs, csetN x p y' = .agg xs) ↔ (∃ xs, x = .agg xs))
  | [], x, l, y, y', l', h, hagg => by
    simp only [cgetN, Option.some.injEq, Prod.mk.injEq] at h
    obtain ⟨rfl, rfl⟩ := h
    simp only [csetN]; exact hagg.symm
  | i :: p, x, l, y, y', l', h, hagg => by
    cases x <;> simp only [cgetN] at h <;> try (cases h; done)
    · rename_i o s A c xs
      simp only [csetN]; split <;> simp
    · rename_i xs
      simp only [csetN]; split <;> simp
theorem Pl.not_tup {x : CV} (h : Pl x) : ∀ xs, x ≠ .tup xs := by
  rintro xs rfl; simp [Pl] at h

/-- Turning the content of one place, memory as it was. -/
theorem Good.reset (h : Good K w0 Z Sc L a w) {r : Nat} {p : List Nat} {x0 y y' : CV} {l : Option Addr} (hx : Sc[r]? = some x0) (hp : Pl (rootC x0).1) (hg : cgetN (rootC x0).1 (rootC x0).2 p = some (y, l))
    (hf : flat y' = flat y) (hk : Ok w Z y') (hpl : Pl y') (hfp : Fits (fp y') (fp y)) (hagg : (∃ xs, y = .agg xs) ↔ (∃ xs, y' = .agg xs)) :
    Good K w0 Z (csetc Sc r p y') L a w ∧ (∀ u, RefOk Sc u → hit r p u = false → RefOk (csetc Sc r p y') u) ∧
      (∃ P1 P2, fps (Sc ++ L) = P1 ++ (fp y ++ P2) ∧ ∃ Q1 Q2, Q1.Sublist P1 ∧ Q2.Sublist P2 ∧ fps (csetc Sc r p y' ++ L) = Q1 ++ (fp y' ++ Q2)) := by
  have hokS := (okL_append _ _).1 h.ok
  have hokx := ((okL_cut hx).1 hokS.1).2.1
  obtain ⟨hsame, hokset⟩ := ok_same p _ _ y l y' hg hf hk
  obtain ⟨L1, R1, hf1, hf2⟩ := fp_set p _ _ y l hg
  have hrefs : ∀ u, RefOk Sc u → hit r p u = false → RefOk (csetc Sc r p y') u := fun u hu hh => RefOk.set hx hp hpl hg (by rw [hf]) u hh hu
  -- the root slot turned
  have hokR : Ok w Z (csetR x0 p y') := by
    have hr := ok_root hokx
    rcases root_cases hp with ⟨b, ty, z, rfl, hz⟩ | ⟨hz, hrt, hcs⟩
    · simp only [rootC] at hsame hokset
      simp only [csetR, Ok] at hokx ⊢
      exact ⟨by rw [hsame]; exact hokx.1, hokset hokx.2⟩
    · rw [hrt] at hokset hr; rw [hcs]; exact hokset hr.1
  have hvalR : val (csetR x0 p y') = val x0 := by
    rcases root_cases hp with ⟨b, ty, z, rfl, hz⟩ | ⟨hz, hrt, hcs⟩
    · simp [csetR, val, val1, flat]
    · rw [hrt] at hsame hg; rw [hcs]
      exact val_of_flat (Pl.set p _ y' hz hpl).not_tup hz.not_tup (agg_set p hg hagg) hsame
  have hslot := cset_slot (p := p) (y := y') hx hp hpl
  have hrl := (List.getElem?_eq_some_iff.1 hx).1
  have hlist : csetc Sc r p y' = (cclr r p Sc).set r (csetR x0 p y') := by
    apply List.ext_getElem?
    intro t
    rw [hslot]
    by_cases e : t = r
    · subst e; simp [cclr, hrl]
    · rw [if_neg e, List.getElem?_set_ne (Ne.symm e)]; simp [cclr]
  have hsubl : ∀ xs : List CV, (fps (cclr r p xs)).Sublist (fps xs) := by
    intro xs
    induction xs with
    | nil => simp [cclr, fps]
    | cons x xs ih =>
      simp only [cclr, List.map_cons, fps] at ih ⊢
      refine List.Sublist.append ?_ ih
      split
      · simp [fp]
      · exact List.Sublist.refl _
  have hokc : ∀ xs : List CV, OkL w Z xs → OkL w Z (cclr r p xs) := by
    intro xs hxs
    rw [okL_iff] at hxs ⊢
    intro z hz
    simp only [cclr, List.mem_map] at hz
    obtain ⟨u, hu, rfl⟩ := hz
    split
    · simp [Ok]
    · exact hxs u hu
  have hcx : (cclr r p Sc)[r]? = some x0 := by simp [cclr, hx, root_hit hp]
  obtain ⟨pre, hfpR, hfp0⟩ : ∃ pre, fp (csetR x0 p y') = pre ++ (L1 ++ fp y' ++ R1) ∧ fp x0 = pre ++ (L1 ++ fp y ++ R1) := by
    rcases root_cases hp with ⟨b, ty, z, rfl, hz⟩ | ⟨hz, hrt, hcs⟩
    · simp only [rootC] at hf1 hf2
      exact ⟨[b], by simp [csetR, fp, hf2], by simp [fp, hf1]⟩
    · rw [hrt] at hf1 hf2
      exact ⟨[], by rw [hcs, hf2]; rfl, by rw [hf1]; rfl⟩
  have hnew : fps (csetc Sc r p y' ++ L) = (fps ((cclr r p Sc).take r) ++ pre ++ L1) ++ (fp y' ++ (R1 ++ fps ((cclr r p Sc).drop (r + 1)) ++ fps L)) := by
    rw [hlist, fps_append, set_at _ hcx, fps_append]
    simp [fps, hfpR]
  have hold : fps (Sc ++ L) = (fps (Sc.take r) ++ pre ++ L1) ++ (fp y ++ (R1 ++ fps (Sc.drop (r + 1)) ++ fps L)) := by
    rw [fps_append, fps_cut hx, hfp0]
    simp
  have hs1 : (fps ((cclr r p Sc).take r) ++ pre ++ L1).Sublist (fps (Sc.take r) ++ pre ++ L1) := by
    refine List.Sublist.append (List.Sublist.append ?_ (List.Sublist.refl _)) (List.Sublist.refl _)
    have := hsubl (Sc.take r); simpa [cclr, List.map_take] using this
  have hs2 : (R1 ++ fps ((cclr r p Sc).drop (r + 1)) ++ fps L).Sublist (R1 ++ fps (Sc.drop (r + 1)) ++ fps L) := by
    refine List.Sublist.append (List.Sublist.append (List.Sublist.refl _) ?_) (List.Sublist.refl _)
    have := hsubl (Sc.drop (r + 1)); simpa [cclr, List.map_drop] using this
  refine ⟨?_, hrefs, _, _, hold, _, _, hs1, hs2, hnew⟩
  refine h.turn ?_ (fun t => ?_) ?_ ?_ ?_ ?_ ?_ h.nr
  · rw [hlist]; simp [cclr]
  · rw [hslot]
    split
    · rename_i e; subst e; rw [hx]; simp [hvalR]
    · simp only [Option.map_map]
      congr 1; funext z
      simp only [Function.comp]
      split
      · exact val_undef _
      · rfl
  · rw [okL_append, hlist, okL_set hcx]
    have := (okL_cut hcx).1 (hokc _ hokS.1)
    exact ⟨⟨this.1, hokR, this.2.2⟩, hokS.2⟩
  · rw [hnew, hold]
    refine Fits.trans (b := (fps (Sc.take r) ++ pre ++ L1) ++ (fp y' ++ (R1 ++ fps (Sc.drop (r + 1)) ++ fps L))) (Fits.of_sublist (List.Sublist.append hs1 (List.Sublist.append (List.Sublist.refl _) hs2))) ⟨fun hnd => ?_, fun b hb => ?_⟩
    · rw [List.nodup_append, List.nodup_append (l₁ := fp y)] at hnd
      rw [List.nodup_append, List.nodup_append (l₁ := fp y')]
      obtain ⟨n1, ⟨n2, n3, n4⟩, n5⟩ := hnd
      exact ⟨n1, ⟨hfp.nodup n2, n3, fun a ha b hb => n4 a (hfp.sub a ha) b hb⟩, fun a ha b hb => n5 a ha b (by
        rcases List.mem_append.1 hb with hb | hb
        · exact List.mem_append.2 (.inl (hfp.sub b hb))
        · exact List.mem_append.2 (.inr hb))⟩
    · rcases List.mem_append.1 hb with hb | hb
      · exact List.mem_append.2 (.inl hb)
      · rcases List.mem_append.1 hb with hb | hb
        · exact List.mem_append.2 (.inr (List.mem_append.2 (.inl (hfp.sub b hb))))
        · exact List.mem_append.2 (.inr (List.mem_append.2 (.inr hb)))
  · intro z hz
    obtain ⟨t, ht, rfl⟩ := List.getElem_of_mem hz
    have ht' : (csetc Sc r p y')[t]? = some (csetc Sc r p y')[t] := List.getElem?_eq_getElem ht
    rw [hslot] at ht'
    split at ht'
    · simp only [Option.some.injEq] at ht'
      rw [← ht']
      rcases root_cases hp with ⟨b, ty, z, rfl, hz⟩ | ⟨hz, hrt, hcs⟩
      · simp [csetR, RefOk]
      · rw [hcs]; exact (Pl.set p _ y' hz hpl).refOk
    · cases hu : Sc[t]? with
      | none => simp [hu] at ht'
      | some u =>
        simp only [hu, Option.map_some, Option.some.injEq] at ht'
        rw [← ht']
        split
        · simp [RefOk]
        · rename_i hh; exact hrefs u (h.refs u (List.mem_of_getElem? hu)) (by simpa using hh)
  · intro z hz
    obtain ⟨t, ht, rfl⟩ := List.getElem_of_mem hz
    have ht' : (csetc Sc r p y')[t]? = some (csetc Sc r p y')[t] := List.getElem?_eq_getElem ht
    rw [hslot] at ht'
    split at ht'
    · simp only [Option.some.injEq] at ht'
      rw [← ht']
      rcases root_cases hp with ⟨b, ty, z, rfl, hz⟩ | ⟨hz, hrt, hcs⟩
      · simp only [csetR, Wf]; exact Pl.set p _ y' hz hpl
      · rw [hcs]; exact (Pl.set p _ y' hz hpl).wf
    · cases hu : Sc[t]? with
      | none => simp [hu] at ht'
      | some u =>
        simp only [hu, Option.map_some, Option.some.injEq] at ht'
        rw [← ht']
        split
        · simp [Wf]
        · exact h.wf u (List.mem_of_getElem? hu)
  · intro z hz
    obtain ⟨t, ht, rfl⟩ := List.getElem_of_mem hz
    have ht' : (csetc Sc r p y')[t]? = some (csetc Sc r p y')[t] := List.getElem?_eq_getElem ht
    rw [hslot] at ht'
    split at ht'
    · simp only [Option.some.injEq] at ht'
      rw [← ht']
      rcases root_cases hp with ⟨b, ty, z, rfl, hz⟩ | ⟨hz, hrt, hcs⟩
      · exact .inl (by simp only [csetR, NR]; exact Pl.set p _ y' hz hpl)
      · rw [hcs]; exact .inl (Pl.set p _ y' hz hpl).nr
    · cases hu : Sc[t]? with
      | none => simp [hu] at ht'
      | some u =>
        simp only [hu, Option.map_some, Option.some.injEq] at ht'
        rw [← ht']
        split
        · exact .inr (by simp [NoOwn])
        · exact h.sorted u (List.mem_of_getElem? hu)
end
end Go.Bv
