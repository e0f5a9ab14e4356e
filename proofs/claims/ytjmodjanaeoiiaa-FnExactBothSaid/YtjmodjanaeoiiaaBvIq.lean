/- Calls that turn what they are lent. Generic: no program. -/
import Derived.Test.YtjmodjanaeoiiaaBvIo
namespace Go.Bv
open Go Go.RowKit
set_option linter.unusedSimpArgs false
set_option linter.unusedVariables false

section
variable {K : Nat → Prop} {w0 : World} {Z : Nat → Prop} {Sc L : List CV} {a : Act} {w : World} {P : Program} {Γ : Tab}

theorem cback_slot {r : Nat} {p : List Nat} {y : AV} {x0 d : CV} (hx : Sc[r]? = some x0) (t : Nat) :
    (cback Sc r p y x0 d)[t]? = if t = r then some (csetR x0 p d) else (Sc[t]?).map fun x => if hin r p y x then .undef (val x) else x := by
  have hrl := (List.getElem?_eq_some_iff.1 hx).1
  unfold cback
  by_cases e : t = r
  · subst e; rw [List.getElem?_set_self (by simpa using hrl), if_pos rfl]
  · rw [List.getElem?_set_ne (Ne.symm e), if_neg e, List.getElem?_map]

mutual
theorem RefOk.back {r : Nat} {p : List Nat} {y d x0 : CV} {l : Option Addr} (hx : Sc[r]? = some x0) (hp : Pl (rootC x0).1) (hd : Pl d) (hg : cgetN (rootC x0).1 (rootC x0).2 p = some (y, l)) (hs : SkC y d) :
    ∀ x : CV, hin r p (er y) x = false → RefOk Sc x → RefOk (cback Sc r p (er y) x0 d) x
  | .at r' q a, hh, h => by
    simp only [Bv.hin] at hh
    simp only [RefOk] at h ⊢
    obtain ⟨x1, y1, h1, h2, h3⟩ := h
    by_cases e : r' = r
    · subst e
      rw [hx] at h1; cases h1
      have hroot : Pl (rootC (csetR x0 p d)).1 := by rw [rootC_csetR hp hd]; exact Pl.set p _ d hp hd
      by_cases hpq : p.isPrefixOf q = true
      · obtain ⟨q', rfl⟩ := List.isPrefixOf_iff_prefix.1 hpq
        have hag : aggPath (er y) q' = true := by simpa [hpq] using hh
        rw [get_in p q' _ _ y l hg] at h3
        obtain ⟨z', g1, _⟩ := get_sk q' y d l y1 _ hs hag h3
        exact ⟨csetR x0 p d, z', by rw [cback_slot hx, if_pos rfl], hroot, by rw [rootC_csetR hp hd]; rw [get_set_in p q' _ _ y l d hg]; exact g1⟩
      · obtain ⟨z', g1, g2, g3⟩ := get_set p q _ _ y l d y1 _ hg (skC_len y d hs) h3 (fun h' => absurd h' hpq)
        exact ⟨csetR x0 p d, z', by rw [cback_slot hx, if_pos rfl], hroot, by rw [rootC_csetR hp hd]; exact g1⟩
    · refine ⟨x1, y1, ?_, h2, h3⟩
      rw [cback_slot hx, if_neg e, h1]
      simp [root_hin h2]
  | .ref r' q lo n v, hh, h => by
    simp only [Bv.hin] at hh
    simp only [RefOk] at h ⊢
    obtain ⟨x1, s, A, c, xs, l1, h1, h2, h3, h4, h5⟩ := h
    by_cases e : r' = r
    · subst e
      rw [hx] at h1; cases h1
      have hroot : Pl (rootC (csetR x0 p d)).1 := by rw [rootC_csetR hp hd]; exact Pl.set p _ d hp hd
      by_cases hpq : p.isPrefixOf q = true
      · obtain ⟨q', rfl⟩ := List.isPrefixOf_iff_prefix.1 hpq
        have hag : aggPath (er y) q' = true := by simpa [hpq] using hh
        rw [get_in p q' _ _ y l hg] at h3
        obtain ⟨z', g1, g2⟩ := get_sk q' y d l _ _ hs hag h3
        obtain ⟨ys, rfl, hlen⟩ := g2
        exact ⟨csetR x0 p d, s, A, c, ys, l1, by rw [cback_slot hx, if_pos rfl], hroot, by rw [rootC_csetR hp hd]; rw [get_set_in p q' _ _ y l d hg]; exact g1, by omega, h5⟩
      · have hne : p ≠ q := fun e => hpq (by rw [← e]; exact List.isPrefixOf_iff_prefix.2 (List.prefix_refl p))
        obtain ⟨z', g1, g2, g3⟩ := get_set p q _ _ y l d _ _ hg (skC_len y d hs) h3 (fun h' => absurd h' hpq)
        obtain ⟨ys, rfl, hlen⟩ := g3 hne
        exact ⟨csetR x0 p d, s, A, c, ys, l1, by rw [cback_slot hx, if_pos rfl], hroot, by rw [rootC_csetR hp hd]; exact g1, by omega, h5⟩
    · refine ⟨x1, s, A, c, xs, l1, ?_, h2, h3, h4, h5⟩
      rw [cback_slot hx, if_neg e, h1]
      simp [root_hin h2]
  | .agg xs, hh, h => by simp only [Bv.hin, RefOk] at hh h ⊢; exact RefOkL.back hx hp hd hg hs xs hh h
  | .tup xs, hh, h => by simp only [Bv.hin, RefOk] at hh h ⊢; exact RefOkL.back hx hp hd hg hs xs hh h
  | .fn _ xs, hh, h => by simp only [Bv.hin, RefOk] at hh h ⊢; exact RefOkL.back hx hp hd hg hs xs hh h
  | .undef _, _, _ | .bool _, _, _ | .int _ _, _, _ | .str _, _, _ | .lst _ _ _ _ _, _, _ | .ip _ _, _, _ | .box _ _ _, _, _ => by simp [RefOk]
theorem RefOkL.back {r : Nat} {p : List Nat} {y d x0 : CV} {l : Option Addr} (hx : Sc[r]? = some x0) (hp : Pl (rootC x0).1) (hd : Pl d) (hg : cgetN (rootC x0).1 (rootC x0).2 p = some (y, l)) (hs : SkC y d) :
    ∀ xs : List CV, hins r p (er y) xs = false → RefOkL Sc xs → RefOkL (cback Sc r p (er y) x0 d) xs
  | [], _, _ => by simp [RefOkL]
  | x :: xs, hh, h => by
    simp only [hins, Bool.or_eq_false_iff] at hh
    simp only [RefOkL] at h ⊢
    exact ⟨RefOk.back hx hp hd hg hs x hh.1 h.1, RefOkL.back hx hp hd hg hs xs hh.2 h.2⟩
end

/-- What is left behind a call that was lent y, and gives d back: the result c beside the frame. -/
theorem Good.lend (h : Good K w0 Z Sc [] a w) {r : Nat} {p : List Nat} {x0 y : CV} {l : Option Addr} (hx : Sc[r]? = some x0) (hp : Pl (rootC x0).1) (hg : cgetN (rootC x0).1 (rootC x0).2 p = some (y, l))
    {w' : World} {Z' : Nat → Prop} {c d : CV} (hz1 : ∀ b, Z b → Z' b) (hz2 : ∀ b, Z' b → (Z b ∨ w.heap.size ≤ b) ∧ b < w'.heap.size) (hok : OkL w' Z' [c, d]) (hap : ∀ b ∈ fps [c, d], ¬ Z' b) (hnc : NR c) (hd : Pl d)
    (hnd : (fps [c, d]).Nodup) (hown : ∀ b ∈ fps [c, d], (b ∈ fp y ∨ w.heap.size ≤ b) ∧ b < w'.heap.size) (hsame : ∀ b, b < w.heap.size → b ∉ fp y → w'.heap[b]? = w.heap[b]?)
    (hgr : w.heap.size ≤ w'.heap.size) (ho : w'.os = w.os) (ht : w'.tape = w.tape) (hu : w'.output = w.output) (hfl : flat d = flat y) (hsk : skA (er y) (er d) = true) (hagg : (∃ xs, y = .agg xs) ↔ (∃ xs, d = .agg xs)) :
    Good K w0 Z' (cback Sc r p (er y) x0 d) [c] a w' := by
  have hs := skC_of y d hsk hfl
  have hokS : OkL w Z Sc := by have := (okL_append _ _).1 h.ok; exact this.1
  have hokx := ((okL_cut hx).1 hokS).2.1
  have hokr := ok_root hokx
  have hply : Pl y := Pl.get p _ _ _ l hg hp
  have hoky : Ok w Z y := ok_get p _ _ _ l hg hokr.1
  obtain ⟨k1, k2, k3, k4⟩ := cstrip_ok y hply hoky
  have hslot := cback_slot (p := p) (y := er y) (d := d) hx
  have hfS : fps (Sc ++ []) = fps Sc := by simp
  have hnodS : (fps Sc).Nodup := by have := h.nodup; rwa [hfS] at this
  have hltS : ∀ b ∈ fps Sc, b < w.heap.size := fun b hb => h.lt b (.inl (by rw [hfS]; exact hb))
  have hapS : ∀ b ∈ fps Sc, ¬ Z b := fun b hb => h.apart b (by rw [hfS]; exact hb)
  obtain ⟨L1, R1, hf1, hf2⟩ := fp_set p _ _ y l hg
  obtain ⟨pre, hfpR, hfp0, hbox⟩ : ∃ pre, (∀ z, fp (csetR x0 p z) = pre ++ (L1 ++ fp z ++ R1)) ∧ fp x0 = pre ++ (L1 ++ fp y ++ R1) ∧ ∀ b ty z, x0 = .box b ty z → pre = [b] := by
    rcases root_cases hp with ⟨b, ty, z, rfl, hz⟩ | ⟨hz, hrt, hcs⟩
    · simp only [rootC] at hf1 hf2
      exact ⟨[b], fun z' => by simp [csetR, fp, hf2], by simp [fp, hf1], fun _ _ _ e => by cases e; rfl⟩
    · rw [hrt] at hf1 hf2
      exact ⟨[], fun z' => by rw [hcs, hf2]; rfl, by rw [hf1]; rfl, fun b ty z e => by subst e; simp [Pl] at hz⟩
  have hold : fps Sc = (fps (Sc.take r) ++ pre ++ L1) ++ (fp y ++ (R1 ++ fps (Sc.drop (r + 1)))) := by
    rw [fps_cut hx, hfp0]; simp
  let cl := Sc.map fun x => if hin r p (er y) x then .undef (val x) else x
  have hcx : cl[r]? = some x0 := by simp [cl, hx, root_hin hp]
  have hlist : cback Sc r p (er y) x0 d = cl.set r (csetR x0 p d) := rfl
  have hsubl : ∀ xs : List CV, (fps (xs.map fun x => if hin r p (er y) x then .undef (val x) else x)).Sublist (fps xs) := by
    intro xs
    induction xs with
    | nil => simp [fps]
    | cons x xs ih =>
      simp only [List.map_cons, fps]
      refine List.Sublist.append ?_ ih
      split
      · simp [fp]
      · exact List.Sublist.refl _
  have hnew : fps (cback Sc r p (er y) x0 d) = (fps (cl.take r) ++ pre ++ L1) ++ (fp d ++ (R1 ++ fps (cl.drop (r + 1)))) := by
    rw [hlist, set_at _ hcx, fps_append]
    simp [fps, hfpR]
  have hs1 : (fps (cl.take r) ++ pre ++ L1).Sublist (fps (Sc.take r) ++ pre ++ L1) := by
    refine List.Sublist.append (List.Sublist.append ?_ (List.Sublist.refl _)) (List.Sublist.refl _)
    have := hsubl (Sc.take r); simpa [cl, List.map_take] using this
  have hs2 : (R1 ++ fps (cl.drop (r + 1))).Sublist (R1 ++ fps (Sc.drop (r + 1))) := by
    refine List.Sublist.append (List.Sublist.refl _) ?_
    have := hsubl (Sc.drop (r + 1)); simpa [cl, List.map_drop] using this
  obtain ⟨A, hA⟩ : ∃ A, A = fps (cl.take r) ++ pre ++ L1 := ⟨_, rfl⟩
  obtain ⟨B, hB⟩ : ∃ B, B = R1 ++ fps (cl.drop (r + 1)) := ⟨_, rfl⟩
  rw [← hA, ← hB] at hnew
  rw [← hA] at hs1
  rw [← hB] at hs2
  -- what is old and not lent
  have hndo := hnodS
  rw [hold] at hndo
  have hAB : ∀ b, (b ∈ A ∨ b ∈ B) → b ∈ fps Sc ∧ b ∉ fp y := fun b hb => by
    rw [List.nodup_append, List.nodup_append (l₁ := fp y)] at hndo
    obtain ⟨n1, ⟨n2, n3, n4⟩, n5⟩ := hndo
    rcases hb with hb | hb
    · refine ⟨by rw [hold]; exact List.mem_append.2 (.inl (hs1.subset hb)), fun hy => n5 b (hs1.subset hb) b (List.mem_append.2 (.inl hy)) rfl⟩
    · refine ⟨by rw [hold]; exact List.mem_append.2 (.inr (List.mem_append.2 (.inr (hs2.subset hb)))), fun hy => n4 b hy b (hs2.subset hb) rfl⟩
  have hABn : (A ++ B).Nodup := by
    rw [List.nodup_append, List.nodup_append (l₁ := fp y)] at hndo
    obtain ⟨n1, ⟨n2, n3, n4⟩, n5⟩ := hndo
    rw [List.nodup_append]
    exact ⟨hs1.nodup n1, hs2.nodup n3, fun u hu v hv => n5 u (hs1.subset hu) v (List.mem_append.2 (.inr (hs2.subset hv)))⟩
  have hsameAB : ∀ b, (b ∈ A ∨ b ∈ B) → w'.heap[b]? = w.heap[b]? := fun b hb => hsame b (hltS b (hAB b hb).1) (hAB b hb).2
  have hyS : ∀ b ∈ fp y, b ∈ fps Sc := fun b hb => by rw [hold]; exact List.mem_append.2 (.inr (List.mem_append.2 (.inl hb)))
  have hsameZ : ∀ b, Z b → w'.heap[b]? = w.heap[b]? := fun b hb => hsame b (h.lt b (.inr hb)) (fun hy => hapS b (hyS b hy) hb)
  have hmemn : ∀ b, b ∈ fps (cback Sc r p (er y) x0 d ++ [c]) → (b ∈ A ∨ b ∈ B) ∨ b ∈ fps [c, d] := fun b hb => by
    rw [fps_append, hnew] at hb
    simp only [fps, List.append_nil, List.mem_append] at hb ⊢
    rcases hb with (hb | hb | hb) | hb
    · exact .inl (.inl hb)
    · exact .inr (.inr hb)
    · exact .inl (.inr hb)
    · exact .inr (.inl hb)
  have hd' : Ok w' Z' d ∧ Ok w' Z' c := by simp only [OkL] at hok; exact ⟨hok.2.1, hok.1⟩
  have hsame1 := ok_same (w := w) (Z := Z) p _ _ y l (cstrip y) hg (cstrip_flat y) k1
  -- the root
  have hcongr : ∀ x : CV, (∀ b ∈ fp x, b ∈ A ∨ b ∈ B) → Ok w Z x → Ok w' Z' x := fun x hb hk => Ok.congr hz1 hsameZ x (fun b hb' => hsameAB b (hb b hb')) hk
  have hg2 : cgetN (csetN (rootC x0).1 p (cstrip y)) (rootC x0).2 p = some (cstrip y, l) := by
    have := get_set_in p [] _ _ y l (cstrip y) hg
    simpa [cgetN] using this
  have hinner : Ok w' Z' (csetN (rootC x0).1 p d) ∧ flat (csetN (rootC x0).1 p d) = flat (rootC x0).1 := by
    have h1 : Ok w Z (csetN (rootC x0).1 p (cstrip y)) := hsame1.2 hokr.1
    have h2 : Ok w' Z' (csetN (rootC x0).1 p (cstrip y)) := hcongr _ (fun b hb => by
      rw [hf2, k2] at hb
      simp only [List.append_nil, List.mem_append] at hb
      rw [hA, hB]
      rcases hb with hb | hb
      · exact .inl (List.mem_append.2 (.inr hb))
      · exact .inr (List.mem_append.2 (.inl hb))) h1
    have h3 := ok_same (w := w') (Z := Z') p _ _ (cstrip y) l d hg2 (by rw [hfl, cstrip_flat]) hd'.1
    rw [set_set p _ _ y l (cstrip y) d hg] at h3
    exact ⟨h3.2 h2, by rw [h3.1, hsame1.1]⟩
  have hokR : Ok w' Z' (csetR x0 p d) := by
    rcases root_cases hp with ⟨b, ty, z, rfl, hz⟩ | ⟨hz, hrt, hcs⟩
    · simp only [rootC] at hinner
      simp only [csetR, Ok] at hokx ⊢
      refine ⟨?_, hinner.1⟩
      rw [hinner.2, hsameAB b (by rw [hA]; exact .inl (by simp [hbox b ty z rfl]))]
      exact hokx.1
    · rw [hrt] at hinner; rw [hcs]; exact hinner.1
  have hvalR : val (csetR x0 p d) = val x0 := by
    rcases root_cases hp with ⟨b, ty, z, rfl, hz⟩ | ⟨hz, hrt, hcs⟩
    · simp [csetR, val, val1, flat]
    · rw [hrt] at hinner hg; rw [hcs]
      exact val_of_flat (Pl.set p _ d hz hd).not_tup hz.not_tup (agg_set p hg hagg) hinner.2
  have hget : ∀ z ∈ cback Sc r p (er y) x0 d, z = csetR x0 p d ∨ ∃ t u, t ≠ r ∧ Sc[t]? = some u ∧ z = if hin r p (er y) u then .undef (val u) else u := by
    intro z hz
    obtain ⟨t, ht', rfl⟩ := List.getElem_of_mem hz
    have ht2 : (cback Sc r p (er y) x0 d)[t]? = some (cback Sc r p (er y) x0 d)[t] := List.getElem?_eq_getElem ht'
    rw [hslot] at ht2
    split at ht2
    · simp only [Option.some.injEq] at ht2; exact .inl ht2.symm
    · rename_i hne
      cases hu' : Sc[t]? with
      | none => simp [hu'] at ht2
      | some u => simp only [hu', Option.map_some, Option.some.injEq] at ht2; exact .inr ⟨t, u, hne, hu', ht2.symm⟩
  refine { defers := h.defers, size := by rw [hlist]; simpa [cl] using h.size, tmps := fun t ht' => ?_, ok := ?_, nodup := ?_, apart := fun b hb => ?_, lt := fun b hb => ?_, refs := fun z hzq => ?_, wf := fun z hzq => ?_, sorted := fun z hzq => ?_,
           nr := fun z hz => ?_, kept := fun b hk => ?_, os := ho.trans h.os, tape := ht.trans h.tape, output := hu.trans h.output, grew := Nat.le_trans h.grew hgr }
  · rw [h.tmps t ht', hslot]
    split
    · rename_i e; subst e; rw [hx]; simp [hvalR]
    · cases Sc[t]? with
      | none => rfl
      | some u => simp only [Option.map_some]; split <;> simp [val_undef]
  · rw [okL_append]
    refine ⟨?_, by simpa [OkL] using hd'.2⟩
    rw [hlist, okL_set hcx]
    have hcl : OkL w Z cl := by
      rw [okL_iff] at hokS ⊢
      intro z hz
      simp only [cl, List.mem_map] at hz
      obtain ⟨u, hu', rfl⟩ := hz
      split
      · simp [Ok]
      · exact hokS u hu'
    have hc3 := (okL_cut hcx).1 hcl
    refine ⟨OkL.congr hz1 hsameZ _ (fun b hb => hsameAB b (by rw [hA]; exact .inl (by simp [hb]))) hc3.1, hokR, OkL.congr hz1 hsameZ _ (fun b hb => hsameAB b (by rw [hB]; exact .inr (by simp [hb]))) hc3.2.2⟩
  · rw [fps_append, hnew]
    have hpm : (A ++ (fp d ++ B) ++ fps [c]).Perm ((A ++ B) ++ fps [c, d]) := by
      simp only [fps, List.append_nil]
      rw [List.append_assoc, List.append_assoc, List.append_assoc]
      refine List.Perm.append_left _ ?_
      rw [← List.append_assoc B (fp c) (fp d)]
      exact List.perm_append_comm
    rw [hpm.nodup_iff, List.nodup_append]
    refine ⟨hABn, hnd, fun u hu' v hv e => ?_⟩
    subst e
    have h1 := hAB u (List.mem_append.1 hu')
    rcases (hown u hv).1 with h2 | h2
    · exact h1.2 h2
    · have := hltS u h1.1; omega
  · rcases hmemn b hb with hb | hb
    · intro hz
      have h1 := hAB b hb
      rcases (hz2 b hz).1 with h2 | h2
      · exact hapS b h1.1 h2
      · have := hltS b h1.1; omega
    · exact hap b hb
  · rcases hb with hb | hb
    · rcases hmemn b hb with hb | hb
      · exact Nat.lt_of_lt_of_le (hltS b (hAB b hb).1) hgr
      · exact (hown b hb).2
    · exact (hz2 b hb).2
  · rcases hget z hzq with rfl | ⟨t, u, _, hu', rfl⟩
    · rcases root_cases hp with ⟨b, ty, z, rfl, hz⟩ | ⟨hz, hrt, hcs⟩
      · simp [csetR, RefOk]
      · rw [hcs]; exact (Pl.set p _ d hz hd).refOk
    · split
      · simp [RefOk]
      · rename_i hh; exact RefOk.back hx hp hd hg hs u (by simpa using hh) (h.refs u (List.mem_of_getElem? hu'))
  · rcases hget z hzq with rfl | ⟨t, u, _, hu', rfl⟩
    · rcases root_cases hp with ⟨b, ty, z, rfl, hz⟩ | ⟨hz, hrt, hcs⟩
      · simp only [csetR, Wf]; exact Pl.set p _ d hz hd
      · rw [hcs]; exact (Pl.set p _ d hz hd).wf
    · split
      · simp [Wf]
      · exact h.wf u (List.mem_of_getElem? hu')
  · rcases hget z hzq with rfl | ⟨t, u, _, hu', rfl⟩
    · rcases root_cases hp with ⟨b, ty, z, rfl, hz⟩ | ⟨hz, hrt, hcs⟩
      · exact .inl (by simp only [csetR, NR]; exact Pl.set p _ d hz hd)
      · rw [hcs]; exact .inl (Pl.set p _ d hz hd).nr
    · split
      · exact .inr (by simp [NoOwn])
      · exact h.sorted u (List.mem_of_getElem? hu')
  · simp only [List.mem_singleton] at hz; subst hz; exact hnc
  · have hk3 := h.kept b hk
    have hnS : b ∉ fps Sc := by have := hk3.2.1; rwa [hfS] at this
    refine ⟨hk3.1, fun hm => ?_, ?_⟩
    · rcases hmemn b hm with hb | hb
      · exact hnS (hAB b hb).1
      · rcases (hown b hb).1 with h2 | h2
        · exact hnS (hyS b h2)
        · have := hk3.1; have := h.grew; omega
    · rw [hsame b (Nat.lt_of_lt_of_le hk3.1 h.grew) (fun hy => hnS (hyS b hy))]
      exact hk3.2.2
end
end Go.Bv
