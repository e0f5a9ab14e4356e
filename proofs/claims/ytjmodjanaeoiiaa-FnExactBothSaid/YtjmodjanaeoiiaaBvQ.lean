/- Stores. Generic: no program. -/
import Derived.Test.YtjmodjanaeoiiaaBvP
namespace Go.Bv
open Go Go.RowKit
set_option linter.unusedSimpArgs false
set_option linter.unusedVariables false
section
variable {K : Nat → Prop} {w0 : World} {Z : Nat → Prop} {Sc L : List CV} {a : Act} {w : World} {P : Program} {Γ : Tab}

/-- Where a place lies: in the block above it, or in one that the value owns; and there is room. -/
theorem loc_get {w : World} {Z : Nat → Prop} : ∀ (p : List Nat) (x : CV) (l : Option Addr) (y : CV) (ad : Addr), cgetN x l p = some (y, some ad) → Ok w Z x →
    (∀ b, l = some b → b.spot = none ∧ ∃ cur E, w.heap[b.block]? = some (.cells cur E (0, 0)) ∧ b.off + (flat x).length ≤ cur.size) →
    (∃ cur E, w.heap[ad.block]? = some (.cells cur E (0, 0)) ∧ ad.off + (flat y).length ≤ cur.size) ∧ ad.spot = none ∧ (ad.block ∈ fp x ∨ ∃ b, l = some b ∧ ad.block = b.block) ∧
    (l = none → ∀ c : CV, flat (csetN x p c) = flat x ∧ ((∃ xs, csetN x p c = .agg xs) ↔ (∃ xs, x = .agg xs)))
  | [], x, l, y, ad, h, hk, hl => by
    simp only [cgetN, Option.some.injEq, Prod.mk.injEq] at h
    obtain ⟨rfl, rfl⟩ := h
    obtain ⟨h1, h2⟩ := hl ad rfl
    exact ⟨h2, h1, .inr ⟨ad, rfl, rfl⟩, fun e => by cases e⟩
  | i :: p, x, l, y, ad, h, hk, hl => by
    cases x <;> simp only [cgetN] at h <;> try (cases h; done)
    · rename_i o s A c xs
      split at h
      · cases h
      rename_i ho
      split at h
      case h_2 => cases h
      rename_i z hz
      simp only [Ok] at hk
      obtain ⟨a1, a2, a3, a4⟩ := hk
      have hi := (List.getElem?_eq_some_iff.1 hz).1
      have ho1 : o = true := by simpa using ho
      have hc0 : c ≠ 0 := by have := a1.1; omega
      obtain ⟨_, ad', cur, E, rfl, hsp, hb, hm, hr⟩ := a1.2.2 ho1 hc0
      have hlz := a2 z (List.mem_of_getElem? hz)
      obtain ⟨g1, g2, g3, g4⟩ := loc_get p z _ y ad h ((okL_cut hz).1 a4).2.1 (fun b hb' => by
        simp only [Option.map_some, Option.some.injEq] at hb'
        subst hb'
        refine ⟨add_spot hsp _, cur, E, by rw [add_block]; exact hb, ?_⟩
        rw [add_eq hsp, hlz]
        simp only
        have : i * s + s ≤ c * s := by
          have : (i + 1) * s ≤ c * s := Nat.mul_le_mul_right s (by have := a1.1; omega)
          rw [Nat.add_mul] at this; omega
        omega)
      refine ⟨g1, g2, .inl ?_, fun _ c' => ?_⟩
      · simp only [fp, List.mem_append]
        rcases g3 with g3 | ⟨b, hb', e⟩
        · right; rw [fps_cut hz]; simp [g3]
        · simp only [Option.map_some, Option.some.injEq] at hb'
          subst hb'
          left
          rw [e, add_block, if_neg (by simp [ho1, hc0])]
          simp
      · simp only [csetN, hz]
        exact ⟨by simp [flat], by simp⟩
    · rename_i xs
      split at h
      case h_2 => cases h
      rename_i z hz
      simp only [Ok] at hk
      obtain ⟨g1, g2, g3, g4⟩ := loc_get p z _ y ad h ((okL_cut hz).1 hk).2.1 (fun b hb' => by
        cases l with
        | none => simp at hb'
        | some b0 =>
          simp only [Option.map_some, Option.some.injEq] at hb'
          subst hb'
          obtain ⟨h1, cur, E, h2, h3⟩ := hl b0 rfl
          refine ⟨add_spot h1 _, cur, E, by rw [add_block]; exact h2, ?_⟩
          simp only [flat] at h3
          rw [flats_cut hz] at h3
          simp only [List.length_append] at h3
          rw [add_eq h1]
          simp only; omega)
      refine ⟨g1, g2, ?_, fun hn c' => ?_⟩
      · rcases g3 with g3 | ⟨b, hb', e⟩
        · left; simp only [fp]; rw [fps_cut hz]; simp [g3]
        · cases l with
          | none => simp at hb'
          | some b0 =>
            simp only [Option.map_some, Option.some.injEq] at hb'
            subst hb'
            right; exact ⟨b0, rfl, by rw [e, add_block]⟩
      · subst hn
        obtain ⟨q1, _⟩ := g4 (by rfl) c'
        simp only [csetN, hz]
        refine ⟨?_, by simp⟩
        simp only [flat]
        rw [flats_set hz, q1, ← flats_cut hz]

theorem fps_csetc {r : Nat} {p : List Nat} {x0 y y' : CV} {l : Option Addr} (hx : Sc[r]? = some x0) (hp : Pl (rootC x0).1) (hpl : Pl y') (hg : cgetN (rootC x0).1 (rootC x0).2 p = some (y, l)) :
    ∃ P1 P2, fps Sc = P1 ++ (fp y ++ P2) ∧ ∃ Q1 Q2, Q1.Sublist P1 ∧ Q2.Sublist P2 ∧ fps (csetc Sc r p y') = Q1 ++ (fp y' ++ Q2) := by
  obtain ⟨L1, R1, hf1, hf2⟩ := fp_set p _ _ y l hg
  have hslot := cset_slot (p := p) (y := y') hx hp hpl
  have hrl := (List.getElem?_eq_some_iff.1 hx).1
  have hlist : csetc Sc r p y' = (cclr r p Sc).set r (csetR x0 p y') := by
    apply List.ext_getElem?
    intro t
    rw [hslot]
    by_cases e : t = r
    · subst e; simp [cclr, hrl]
    · rw [if_neg e, List.getElem?_set_ne (Ne.symm e)]; simp [cclr]
  have hsubl : ∀ xs : List CV, (fps (cclr r p xs)).Sublist (fps xs) := by
    intro xs
    induction xs with
    | nil => simp [cclr, fps]
    | cons x xs ih =>
      simp only [cclr, List.map_cons, fps] at ih ⊢
      refine List.Sublist.append ?_ ih
      split
      · simp [fp]
      · exact List.Sublist.refl _
  have hcx : (cclr r p Sc)[r]? = some x0 := by simp [cclr, hx, root_hit hp]
  obtain ⟨pre, hfpR, hfp0⟩ : ∃ pre, fp (csetR x0 p y') = pre ++ (L1 ++ fp y' ++ R1) ∧ fp x0 = pre ++ (L1 ++ fp y ++ R1) := by
    rcases root_cases hp with ⟨b, ty, z, rfl, hz⟩ | ⟨hz, hrt, hcs⟩
    · simp only [rootC] at hf1 hf2
      exact ⟨[b], by simp [csetR, fp, hf2], by simp [fp, hf1]⟩
    · rw [hrt] at hf1 hf2
      exact ⟨[], by rw [hcs, hf2]; rfl, by rw [hf1]; rfl⟩
  refine ⟨fps (Sc.take r) ++ pre ++ L1, R1 ++ fps (Sc.drop (r + 1)), by rw [fps_cut hx, hfp0]; simp, fps ((cclr r p Sc).take r) ++ pre ++ L1, R1 ++ fps ((cclr r p Sc).drop (r + 1)), ?_, ?_, ?_⟩
  · refine List.Sublist.append (List.Sublist.append ?_ (List.Sublist.refl _)) (List.Sublist.refl _)
    have := hsubl (Sc.take r); simpa [cclr, List.map_take] using this
  · refine List.Sublist.append (List.Sublist.refl _) ?_
    have := hsubl (Sc.drop (r + 1)); simpa [cclr, List.map_drop] using this
  · rw [hlist, set_at _ hcx, fps_append]
    simp [fps, hfpR]

/-- A store of what stands beside the frame into a place. -/
theorem Good.store {c : CV} (h : Good K w0 Z Sc (c :: L) a w) {w' : World} {r : Nat} {p : List Nat} {x0 y : CV} {ad : Addr} (hx : Sc[r]? = some x0) (hp : Pl (rootC x0).1) (hg : cgetN (rootC x0).1 (rootC x0).2 p = some (y, some ad))
    (hpl : Pl c) (hlen : (flat c).length = (flat y).length) (H : Stored w w' ad (flat y).length) (hnew : CellsAt w' ad (flat c)) (hs : w'.heap.size = w.heap.size) (ho : w'.os = w.os) (ht : w'.tape = w.tape) (hu : w'.output = w.output) :
    Good K w0 Z (csetc Sc r p c) L a w' ∧ ∀ u, RefOk Sc u → hit r p u = false → RefOk (csetc Sc r p c) u := by
  have hokA := (okL_append Sc (c :: L)).1 h.ok
  have hokx := ((okL_cut hx).1 hokA.1).2.1
  have hokr := ok_root hokx
  have hndS : (fps Sc ++ (fp c ++ fps L)).Nodup := by have := h.nodup; rwa [fps_append] at this
  have hnd0 : (fp x0).Nodup := by
    have := (List.nodup_append.1 hndS).1
    rw [fps_cut hx] at this
    exact (List.nodup_append.1 (List.nodup_append.1 this).2.1).1
  -- where the place lies
  have hloc := loc_get p _ _ y ad hg hokr.1 (fun b hb => by
    rcases root_cases hp with ⟨b', ty, z, rfl, hz⟩ | ⟨hz, hrt, hcs⟩
    · simp only [rootC, Option.some.injEq] at hb ⊢
      subst hb
      simp only [Ok] at hokx
      exact ⟨rfl, _, ty, hokx.1, by simp⟩
    · rw [hrt] at hb; cases hb)
  obtain ⟨⟨cur0, E0, hb0, hroom0⟩, hsp, hwh, hplain⟩ := hloc
  have hin : ad.block ∈ fp x0 := by
    rcases root_cases hp with ⟨b', ty, z, rfl, hz⟩ | ⟨hz, hrt, hcs⟩
    · simp only [rootC, Option.some.injEq] at hwh
      simp only [fp, List.mem_cons]
      rcases hwh with hw | ⟨b, rfl, e⟩
      · exact .inr hw
      · exact .inl e
    · rw [hrt] at hwh
      rcases hwh with hw | ⟨b, e, _⟩
      · exact hw
      · cases e
  have hinS : ad.block ∈ fps Sc := mem_fps.2 ⟨x0, List.mem_of_getElem? hx, hin⟩
  have hz : ¬ Z ad.block := h.apart _ (by rw [fps_append]; exact List.mem_append.2 (.inl hinS))
  have hcL : ad.block ∉ fp c ∧ ad.block ∉ fps L := by
    have := (List.nodup_append.1 hndS).2.2
    exact ⟨fun hm => this _ hinS _ (List.mem_append.2 (.inl hm)) rfl, fun hm => this _ hinS _ (List.mem_append.2 (.inr hm)) rfl⟩
  have hokc : Ok w' Z c := H.ok hz hcL.1 hokA.2.1
  have hrl := (List.getElem?_eq_some_iff.1 hx).1
  -- the root's content behind the store
  have hU : Upd w' Z ad (flat y).length (rootC x0).1 (csetN (rootC x0).1 p c) (rootC x0).2 := by
    refine upd H hz rfl hlen hnew hokc p _ _ hokr.1 ?_ (fun b hb => ⟨(hokr.2 b hb).1, ?_, (hokr.2 b hb).2⟩) hg
    · rcases root_cases hp with ⟨b', ty, z, rfl, hz⟩ | ⟨hz, hrt, hcs⟩
      · simp only [fp] at hnd0; exact (List.nodup_cons.1 hnd0).2
      · rw [hrt]; exact hnd0
    · rcases root_cases hp with ⟨b', ty, z, rfl, hz⟩ | ⟨hz, hrt, hcs⟩
      · simp only [rootC, Option.some.injEq] at hb ⊢
        subst hb
        simp only [fp] at hnd0; exact (List.nodup_cons.1 hnd0).1
      · rw [hrt] at hb; cases hb
  have hokR : Ok w' Z (csetR x0 p c) := by
    rcases root_cases hp with ⟨b', ty, z, rfl, hz'⟩ | ⟨hz', hrt, hcs⟩
    · simp only [rootC] at hU
      simp only [csetR, Ok] at hokx ⊢
      refine ⟨?_, hU.ok⟩
      have hcells := (hU.at_ ⟨b', 0, none⟩ rfl).1
      rw [cellsAt_iff rfl] at hcells
      obtain ⟨cur', hcur, hsz⟩ : ∃ cur', w'.heap[b']? = some (.cells cur' ty (0, 0)) ∧ cur'.size = (flat z).length := by
        by_cases e : b' = ad.block
        · obtain ⟨cur', q1, q2⟩ := H.hit _ _ (e ▸ hokx.1)
          exact ⟨cur', e ▸ q1, by rw [q2]; simp⟩
        · exact ⟨_, (H.other b' e).trans hokx.1, by simp⟩
      rw [hcur]
      congr 2
      apply Array.ext'
      simp only
      apply List.ext_getElem?
      intro j
      by_cases hj : j < (flat (csetN z p c)).length
      · have := hcells j _ (List.getElem?_eq_getElem hj)
        simp only [World.cell?, hcur, Nat.zero_add, Option.isSome_none, Bool.false_eq_true, if_false] at this
        rw [List.getElem?_eq_getElem hj]
        simpa using this
      · have hl1 : cur'.toList.length ≤ j := by rw [Array.length_toList, hsz, ← hU.len]; omega
        have hl2 : ((flat (csetN z p c)).toArray).toList.length ≤ j := by simp; omega
        rw [List.getElem?_eq_none hl1]
        exact (List.getElem?_eq_none hl2).symm
    · rw [hrt] at hU; rw [hcs]; exact hU.ok
  have hvalR : val (csetR x0 p c) = val x0 := by
    rcases root_cases hp with ⟨b', ty, z, rfl, hz'⟩ | ⟨hz', hrt, hcs⟩
    · simp [csetR, val, val1, flat]
    · rw [hrt] at hplain
      obtain ⟨q1, q2⟩ := hplain rfl c
      rw [hcs]
      exact val_of_flat (Pl.set p _ c hz' hpl).not_tup hz'.not_tup q2 q1
  have hslot := cset_slot (p := p) (y := c) hx hp hpl
  have hrefs : ∀ u, RefOk Sc u → hit r p u = false → RefOk (csetc Sc r p c) u := fun u hu hh => RefOk.set hx hp hpl hg hlen u hh hu
  obtain ⟨P1, P2, e1, Q1, Q2, s1, s2, e2⟩ := fps_csetc (y' := c) hx hp hpl hg
  have hfit : Fits (fps (csetc Sc r p c ++ L)) (fps (Sc ++ c :: L)) := by
    have e3 : fps (csetc Sc r p c ++ L) = Q1 ++ (fp c ++ Q2) ++ fps L := by rw [fps_append, e2]
    have e4 : fps (Sc ++ c :: L) = (P1 ++ (fp y ++ P2)) ++ (fp c ++ fps L) := by rw [fps_append, e1]; simp [fps]
    rw [e3, e4]
    refine Fits.trans (b := (Q1 ++ Q2) ++ (fp c ++ fps L)) (Fits.of_perm ?_) (Fits.of_sublist (List.Sublist.append (List.Sublist.append s1 (List.Sublist.trans s2 (List.sublist_append_right _ _))) (List.Sublist.refl _)))
    simp only [List.append_assoc]
    refine List.Perm.append_left _ ?_
    rw [← List.append_assoc, ← List.append_assoc]
    exact List.Perm.append_right _ List.perm_append_comm
  have hother : ∀ t u, t ≠ r → Sc[t]? = some u → ad.block ∉ fp u := by
    intro t u htr hu hm
    have hnd := (List.nodup_append.1 hndS).1
    rcases Nat.lt_or_ge t r with hlt | hge
    · have hu' : (Sc.take r)[t]? = some u := by rw [List.getElem?_take_of_lt hlt]; exact hu
      rw [fps_cut hx] at hnd
      exact (List.nodup_append.1 hnd).2.2 _ (mem_fps.2 ⟨u, List.mem_of_getElem? hu', hm⟩) _ (List.mem_append.2 (.inl hin)) rfl
    · have hu' : (Sc.drop (r + 1))[t - (r + 1)]? = some u := by rw [List.getElem?_drop]; rw [show r + 1 + (t - (r + 1)) = t by omega]; exact hu
      rw [fps_cut hx] at hnd
      exact (List.nodup_append.1 (List.nodup_append.1 hnd).2.1).2.2 _ hin _ (mem_fps.2 ⟨u, List.mem_of_getElem? hu', hm⟩) rfl
  have hget : ∀ z ∈ csetc Sc r p c, z = csetR x0 p c ∨ ∃ t u, t ≠ r ∧ Sc[t]? = some u ∧ z = if hit r p u then .undef (val u) else u := by
    intro z hz
    obtain ⟨t, ht, rfl⟩ := List.getElem_of_mem hz
    have ht' : (csetc Sc r p c)[t]? = some (csetc Sc r p c)[t] := List.getElem?_eq_getElem ht
    rw [hslot] at ht'
    split at ht'
    · simp only [Option.some.injEq] at ht'; exact .inl ht'.symm
    · rename_i hne
      cases hu : Sc[t]? with
      | none => simp [hu] at ht'
      | some u =>
        simp only [hu, Option.map_some, Option.some.injEq] at ht'
        exact .inr ⟨t, u, hne, hu, ht'.symm⟩
  refine ⟨{ defers := h.defers, size := ?_, tmps := fun t ht' => ?_, ok := ?_, nodup := hfit.nodup h.nodup, apart := fun b hb => h.apart b (hfit.sub b hb), lt := fun b hb => by rw [hs]; exact h.lt b (hb.imp (hfit.sub b) id),
            refs := ?_, wf := ?_, sorted := ?_, nr := fun z hz => h.nr z (List.mem_cons_of_mem _ hz), kept := fun b hb => ⟨(h.kept b hb).1, fun hm => (h.kept b hb).2.1 (hfit.sub b hm), (H.other b fun e => (h.kept b hb).2.1 (e ▸ (by rw [fps_append]; exact List.mem_append.2 (.inl hinS)))).trans (h.kept b hb).2.2⟩,
            os := ho.trans h.os, tape := ht.trans h.tape, output := hu.trans h.output, grew := by rw [hs]; exact h.grew }, hrefs⟩
  · rw [h.size]; simp [csetc, cclr, cset, hx]
  · rw [h.tmps t ht', hslot]
    split
    · rename_i e; subst e; rw [hx]; simp [hvalR]
    · simp only [Option.map_map]
      congr 1; funext z
      simp only [Function.comp]
      split
      · exact (val_undef _).symm
      · rfl
  · rw [okL_append, okL_iff]
    refine ⟨fun z hz' => ?_, H.okL hz hcL.2 hokA.2.2⟩
    rcases hget z hz' with rfl | ⟨t, u, hne, hu', rfl⟩
    · exact hokR
    · split
      · simp [Ok]
      · exact H.ok hz (hother t u hne hu') (((okL_cut hu').1 hokA.1).2.1)
  · intro z hz'
    rcases hget z hz' with rfl | ⟨t, u, hne, hu', rfl⟩
    · rcases root_cases hp with ⟨b, ty, z, rfl, hz⟩ | ⟨hz, hrt, hcs⟩
      · simp [csetR, RefOk]
      · rw [hcs]; exact (Pl.set p _ c hz hpl).refOk
    · split
      · simp [RefOk]
      · rename_i hh; exact hrefs u (h.refs u (List.mem_of_getElem? hu')) (by simpa using hh)
  · intro z hz'
    rcases hget z hz' with rfl | ⟨t, u, hne, hu', rfl⟩
    · rcases root_cases hp with ⟨b, ty, z, rfl, hz⟩ | ⟨hz, hrt, hcs⟩
      · simp only [csetR, Wf]; exact Pl.set p _ c hz hpl
      · rw [hcs]; exact (Pl.set p _ c hz hpl).wf
    · split
      · simp [Wf]
      · exact h.wf u (List.mem_of_getElem? hu')
  · intro z hz'
    rcases hget z hz' with rfl | ⟨t, u, hne, hu', rfl⟩
    · rcases root_cases hp with ⟨b, ty, z, rfl, hz⟩ | ⟨hz, hrt, hcs⟩
      · exact .inl (by simp only [csetR, NR]; exact Pl.set p _ c hz hpl)
      · rw [hcs]; exact .inl (Pl.set p _ c hz hpl).nr
    · split
      · exact .inr (by simp [NoOwn])
      · exact h.sorted u (List.mem_of_getElem? hu')
end
end Go.Bv
