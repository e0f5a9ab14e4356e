/- Taking: a read value becomes one of its own; what it leant on is gone from its place. Generic: no program. -/
import Derived.Test.YtjmodjanaeoiiaaBvH
namespace Go.Bv
open Go Go.RowKit
set_option linter.unusedSimpArgs false
set_option linter.unusedVariables false

mutual
def refs : CV → List (Nat × List Nat)
  | .ref r p _ _ _ => [(r, p)]
  | .agg xs => refss xs
  | _ => []
def refss : List CV → List (Nat × List Nat)
  | [] => []
  | x :: xs => refs x ++ refss xs
end
mutual
def arefs : AV → List (Nat × List Nat)
  | .ref r p _ _ => [(r, p)]
  | .agg xs => arefss xs
  | _ => []
def arefss : List AV → List (Nat × List Nat)
  | [] => []
  | x :: xs => arefs x ++ arefss xs
end
mutual
theorem refs_er : ∀ x : CV, arefs (er x) = refs x
  | .agg xs => by simp only [er, arefs, refs]; exact refss_er xs
  | .undef _ | .bool _ | .int _ _ | .str _ | .lst _ _ _ _ _ | .fn _ _ | .ip _ _ | .at _ _ _ | .ref _ _ _ _ _ | .box _ _ _ | .tup _ => by simp [er, arefs, refs]
theorem refss_er : ∀ xs : List CV, arefss (ers xs) = refss xs
  | [] => by simp [ers, arefss, refss]
  | x :: xs => by simp only [ers, arefss, refss, refs_er x, refss_er xs]
end

mutual
def atake (S : List AV) : AV → Option (AV × List AV)
  | .ref r p lo n => match aget S r p with | some (.lst true s xs) => some (.lst true s ((xs.drop lo).take n), asetc S r p .undef) | _ => none
  | .agg xs => match atakes S xs with | some (ys, S') => some (.agg ys, S') | none => none
  | .at _ _ => none
  | .box _ => none
  | .tup _ => none
  | .fn f xs => if plAs xs then some (.fn f xs, S) else none
  | .undef => none
  | x => some (x, S)
def atakes (S : List AV) : List AV → Option (List AV × List AV)
  | [] => some ([], S)
  | x :: xs => if (arefs x).any (fun rp => hitAs rp.1 rp.2 xs) then none else
    match atake S x with
    | some (y, S1) => match atakes S1 xs with | some (ys, S2) => some (y :: ys, S2) | none => none
    | none => none
end

theorem hits_mem {r : Nat} {p : List Nat} : ∀ {xs : List CV} {u : CV}, u ∈ xs → hits r p xs = false → hit r p u = false
  | [], _, h, _ => by cases h
  | x :: xs, u, h, hh => by
    simp only [hits, Bool.or_eq_false_iff] at hh
    rcases List.mem_cons.1 h with rfl | h
    · exact hh.1
    · exact hits_mem h hh.2

section
variable {K : Nat → Prop} {w0 : World} {Z : Nat → Prop} {a : Act} {w : World}

theorem flats_take (n : Nat) (xs : List CV) : (flats (xs.take n)).Sublist (flats xs) := by
  conv => rhs; rw [← List.take_append_drop n xs]
  rw [flats_append]; exact List.sublist_append_left _ _
theorem fps_sub (lo n : Nat) (xs : List CV) : (fps ((xs.drop lo).take n)).Sublist (fps xs) := by
  refine List.Sublist.trans (l₂ := fps (xs.drop lo)) ?_ ?_
  · conv => rhs; rw [← List.take_append_drop n (xs.drop lo)]
    rw [fps_append]; exact List.sublist_append_left _ _
  · conv => rhs; rw [← List.take_append_drop lo xs]
    rw [fps_append]; exact List.sublist_append_right _ _
/-- A part of a list's cells. -/
theorem cells_sub {s : Nat} {A : Addr} {xs : List CV} (hs : A.spot = none) (hl : ∀ x ∈ xs, (flat x).length = s) (hc : CellsAt w A (flats xs)) (lo n : Nat) (hlo : lo + n ≤ xs.length) :
    CellsAt w (A.add (lo * s)) (flats ((xs.drop lo).take n)) := by
  have h1 : flats xs = flats (xs.take lo) ++ (flats ((xs.drop lo).take n) ++ flats ((xs.drop lo).drop n)) := by
    rw [← flats_append, List.take_append_drop, ← flats_append, List.take_append_drop]
  rw [h1, cellsAt_append hs, cellsAt_append (add_spot hs _)] at hc
  have : (flats (xs.take lo)).length = lo * s := by
    rw [flats_len_of (s := s) fun x hx => hl x (List.mem_of_mem_take hx)]; simp [Nat.min_eq_left (show lo ≤ xs.length by omega)]
  rw [this] at hc
  exact hc.2.1

/-- A part of an own list is an own list. -/
theorem sub_ok {s c lo n : Nat} {A : Option Addr} {xs : List CV} {v : Value} (hk : Ok w Z (.lst true s A c xs)) (hlo : lo + n ≤ xs.length) (hh : RefHdr s A c lo n v) :
    ∃ A' c', v = .slice A' n c' ∧ Ok w Z (.lst true s A' c' ((xs.drop lo).take n)) ∧ Fits (fp (.lst true s A' c' ((xs.drop lo).take n))) (fp (.lst true s A c xs)) := by
  obtain ⟨A', c', rfl, hloc, rfl, hnc, h0, h1⟩ := hh
  refine ⟨A', c - lo, rfl, ?_, ?_⟩
  · simp only [Ok] at hk ⊢
    obtain ⟨⟨a1, a2, a3⟩, b, _, d⟩ := hk
    have hlen : ((xs.drop lo).take n).length = n := by simp; omega
    refine ⟨⟨by rw [hlen]; exact hnc, ?_, fun _ hc0 => ?_⟩, fun x hx => b x (List.mem_of_mem_drop (List.mem_of_mem_take hx)), by simp, ?_⟩
    · rw [hlen]
      by_cases hn : n = 0
      · exact .inl hn
      · rcases a2 with a2 | ⟨ad, rfl, hs, hc, _⟩
        · omega
        · refine .inr ⟨ad.add (lo * s), ?_, add_spot hs _, cells_sub hs b hc lo n hlo, by simp⟩
          rw [h1 (by omega)]; rfl
    · obtain ⟨hx0, ad, cur, E, rfl, hs, hb, hm, hr⟩ := a3 rfl (by omega)
      refine ⟨hx0, ad.add (lo * s), cur, E, by rw [h1 (by omega)]; rfl, add_spot hs _, by rw [add_block]; exact hb, by omega, ?_⟩
      rw [add_eq hs]
      simp only
      have : lo * s + (c - lo) * s = c * s := by rw [← Nat.add_mul]; congr 1; omega
      omega
    · rw [okL_iff] at d ⊢
      intro x hx
      exact d x (List.mem_of_mem_drop (List.mem_of_mem_take hx))
  · refine Fits.of_sublist ?_
    simp only [fp]
    refine List.Sublist.append ?_ (fps_sub lo n xs)
    by_cases hc : c - lo = 0
    · simp [hc]
    · rw [if_neg (by simp; omega), if_neg (by simp; omega), h1 (by omega)]
      cases A <;> simp [add_block]

mutual
theorem take_good : ∀ (x : CV) (Sc L : List CV), Good K w0 Z Sc L a w → RefOk Sc x → Wf x → Ok w Z x → fp x = [] → ∀ (y' : AV) (S' : List AV), atake (ers Sc) (er x) = some (y', S') →
    ∃ y Sc', er y = y' ∧ ers Sc' = S' ∧ Good K w0 Z Sc' (y :: L) a w ∧ flat y = flat x ∧ Pl y ∧ ((∃ ys, y = .agg ys) ↔ (∃ ys, x = .agg ys)) ∧
      (∀ u, RefOk Sc u → (∀ rp ∈ refs x, hit rp.1 rp.2 u = false) → RefOk Sc' u)
  | .ref r p lo n v, Sc, L, h, hr, _, _, _, y', S', ht => by
    simp only [RefOk] at hr
    obtain ⟨x0, s, A, c, xs, l, hx, hp, hg, hlo, hh⟩ := hr
    simp only [er, atake] at ht
    have hga : aget (ers Sc) r p = some (.lst true s (ers xs)) := by
      have := er_cget (Sc := Sc) (r := r) (p := p) (y := .lst true s A c xs) (l := l) (by simp [cget, hx, hg])
      simpa [er] using this
    rw [hga] at ht
    simp only [Option.some.injEq, Prod.mk.injEq] at ht
    obtain ⟨rfl, rfl⟩ := ht
    have hokx := ((okL_cut hx).1 ((okL_append _ _).1 h.ok).1).2.1
    have hoky : Ok w Z (.lst true s A c xs) := ok_get p _ _ _ l hg (ok_root hokx).1
    have hply : Pl (.lst true s A c xs) := Pl.get p _ _ _ l hg hp
    obtain ⟨A', c', rfl, hk', hf'⟩ := sub_ok hoky hlo hh
    obtain ⟨hG, hrefs, P1, P2, e1, Q1, Q2, s1, s2, e2⟩ := h.reset (y' := .undef (.slice A xs.length c)) hx hp hg (by simp [flat]) (by simp [Ok]) (by simp [Pl, Value.oneCell'])
      ⟨fun _ => by simp [fp], fun b hb => by simp [fp] at hb⟩ (by simp)
    have hlen : ((xs.drop lo).take n).length = n := by simp; omega
    refine ⟨.lst true s A' c' ((xs.drop lo).take n), csetc Sc r p (.undef (.slice A xs.length c)), ?_, by rw [er_csetc]; simp [er], ?_, by simp [flat, hlen], ?_, by simp, ?_⟩
    · simp [er, ers_eq, List.map_take, List.map_drop]
    · have hfit : Fits (fps (csetc Sc r p (.undef (.slice A xs.length c)) ++ .lst true s A' c' ((xs.drop lo).take n) :: L)) (fps (Sc ++ L)) := by
        have e3 : fps (csetc Sc r p (.undef (.slice A xs.length c)) ++ .lst true s A' c' ((xs.drop lo).take n) :: L) =
            fps (csetc Sc r p (.undef (.slice A xs.length c))) ++ (fp (.lst true s A' c' ((xs.drop lo).take n)) ++ fps L) := by simp only [fps_append, fps]
        rw [e3, e1]
        rw [fps_append] at e2
        simp only [fp, List.nil_append] at e2
        refine Fits.trans (b := fp (.lst true s A' c' ((xs.drop lo).take n)) ++ (Q1 ++ Q2)) (Fits.of_perm ?_) ?_
        · rw [← e2, ← List.append_assoc, ← List.append_assoc]
          exact List.Perm.append_right _ List.perm_append_comm
        · refine Fits.trans (b := fp (.lst true s A' c' ((xs.drop lo).take n)) ++ (P1 ++ P2)) (Fits.of_sublist (List.Sublist.append (List.Sublist.refl _) (List.Sublist.append s1 s2))) ?_
          refine Fits.trans (b := fp (.lst true s A c xs) ++ (P1 ++ P2)) ⟨fun hnd => ?_, fun b hb => ?_⟩ (Fits.of_perm ?_)
          · rw [List.nodup_append] at hnd ⊢
            exact ⟨hf'.nodup hnd.1, hnd.2.1, fun u hu v hv => hnd.2.2 u (hf'.sub u hu) v hv⟩
          · rcases List.mem_append.1 hb with hb | hb
            · exact List.mem_append.2 (.inl (hf'.sub b hb))
            · exact List.mem_append.2 (.inr hb)
          · rw [← List.append_assoc, ← List.append_assoc]
            exact List.Perm.append_right _ List.perm_append_comm
      refine { hG with ok := ?_, nodup := hfit.nodup h.nodup, apart := fun b hb => h.apart b (hfit.sub b hb), lt := fun b hb => h.lt b (hb.imp (hfit.sub b) id), nr := ?_, kept := fun b hb => ⟨(h.kept b hb).1, fun hm => (h.kept b hb).2.1 (hfit.sub b hm), (h.kept b hb).2.2⟩ }
      · rw [okL_append]
        have := (okL_append _ _).1 hG.ok
        exact ⟨this.1, hk', this.2⟩
      · intro z hz
        rcases List.mem_cons.1 hz with rfl | hz
        · simp only [NR, Pl] at hply ⊢
          rw [plL_iff] at hply ⊢
          exact fun u hu => hply u (List.mem_of_mem_drop (List.mem_of_mem_take hu))
        · exact hG.nr z hz
    · simp only [Pl] at hply ⊢
      rw [plL_iff] at hply ⊢
      exact fun u hu => hply u (List.mem_of_mem_drop (List.mem_of_mem_take hu))
    · intro u hu hhit
      exact hrefs u hu (hhit (r, p) (by simp [refs]))
  | .agg xs, Sc, L, h, hr, hw, hk, hf, y', S', ht => by
    simp only [RefOk] at hr
    simp only [Wf] at hw
    simp only [Ok] at hk
    simp only [fp] at hf
    simp only [er, atake] at ht
    cases hts : atakes (ers Sc) (ers xs) with
    | none => simp [hts] at ht
    | some yS =>
      obtain ⟨ys', S1⟩ := yS
      simp only [hts, Option.some.injEq, Prod.mk.injEq] at ht
      obtain ⟨rfl, rfl⟩ := ht
      obtain ⟨ys, Sc', e1, e2, hG, hfl, hpl, hrf⟩ := takes_good xs Sc L h hr hw hk hf ys' S1 hts
      refine ⟨.agg ys, Sc', by simp [er, e1], e2, ?_, by simp [flat, hfl], by simpa only [Pl] using hpl, by simp, fun u hu hh => hrf u hu (by simpa only [refs] using hh)⟩
      refine hG.beside ?_ ?_ ?_
      · have := (okL_append _ _).1 ((okL_append _ _).1 hG.ok).2
        exact ⟨by simpa only [Ok] using this.1, this.2⟩
      · simp only [fps, fp, fps_append]; exact Fits.refl _
      · intro z hz
        rcases List.mem_cons.1 hz with rfl | hz
        · simpa only [NR, Pl] using hpl
        · exact hG.nr z (by simp [hz])
  | .at _ _ _, Sc, L, _, _, _, _, _, y', S', ht => by simp [er, atake] at ht
  | .box _ _ _, Sc, L, _, _, _, _, _, y', S', ht => by simp [er, atake] at ht
  | .tup _, Sc, L, _, _, _, _, _, y', S', ht => by simp [er, atake] at ht
  | .fn f xs, Sc, L, h, hr, hw, hk, hf, y', S', ht => by
    simp only [er, atake] at ht
    split at ht
    case isFalse => cases ht
    rename_i hpl
    simp only [Option.some.injEq, Prod.mk.injEq] at ht
    obtain ⟨rfl, rfl⟩ := ht
    have hP : Pl (.fn f xs) := by simpa only [Pl] using (plL_er xs) hpl
    exact ⟨.fn f xs, Sc, by simp [er], rfl, h.add hk hf hP.nr, rfl, hP, by simp, fun u hu _ => hu⟩
  | .undef _, Sc, L, _, _, _, _, _, y', S', ht => by simp [er, atake] at ht
  | .bool v, Sc, L, h, _, _, hk, hf, y', S', ht => by
    simp only [er, atake, Option.some.injEq, Prod.mk.injEq] at ht
    obtain ⟨rfl, rfl⟩ := ht
    exact ⟨.bool v, Sc, by simp [er], rfl, h.add hk hf (by simp [NR, Pl]), rfl, by simp [Pl], by simp, fun u hu _ => hu⟩
  | .int k v, Sc, L, h, _, _, hk, hf, y', S', ht => by
    simp only [er, atake, Option.some.injEq, Prod.mk.injEq] at ht
    obtain ⟨rfl, rfl⟩ := ht
    exact ⟨.int k v, Sc, by simp [er], rfl, h.add hk hf (by simp [NR, Pl]), rfl, by simp [Pl], by simp, fun u hu _ => hu⟩
  | .str v, Sc, L, h, _, _, hk, hf, y', S', ht => by
    simp only [er, atake, Option.some.injEq, Prod.mk.injEq] at ht
    obtain ⟨rfl, rfl⟩ := ht
    exact ⟨.str v, Sc, by simp [er], rfl, h.add hk hf (by simp [NR, Pl]), rfl, by simp [Pl], by simp, fun u hu _ => hu⟩
  | .lst o s A c xs, Sc, L, h, _, hw, hk, hf, y', S', ht => by
    simp only [er, atake, Option.some.injEq, Prod.mk.injEq] at ht
    obtain ⟨rfl, rfl⟩ := ht
    have hP : Pl (.lst o s A c xs) := by simpa only [Pl, Wf] using hw
    exact ⟨.lst o s A c xs, Sc, by simp [er], rfl, h.add hk hf hP.nr, rfl, hP, by simp, fun u hu _ => hu⟩
  | .ip b x, Sc, L, h, _, hw, hk, hf, y', S', ht => by
    simp only [er, atake, Option.some.injEq, Prod.mk.injEq] at ht
    obtain ⟨rfl, rfl⟩ := ht
    have hP : Pl (.ip b x) := by simpa only [Pl, Wf] using hw
    exact ⟨.ip b x, Sc, by simp [er], rfl, h.add hk hf hP.nr, rfl, hP, by simp, fun u hu _ => hu⟩
theorem takes_good : ∀ (xs : List CV) (Sc L : List CV), Good K w0 Z Sc L a w → RefOkL Sc xs → WfL xs → OkL w Z xs → fps xs = [] → ∀ (ys' : List AV) (S' : List AV), atakes (ers Sc) (ers xs) = some (ys', S') →
    ∃ ys Sc', ers ys = ys' ∧ ers Sc' = S' ∧ Good K w0 Z Sc' (ys ++ L) a w ∧ flats ys = flats xs ∧ PlL ys ∧
      (∀ u, RefOk Sc u → (∀ rp ∈ refss xs, hit rp.1 rp.2 u = false) → RefOk Sc' u)
  | [], Sc, L, h, _, _, _, _, ys', S', ht => by
    simp only [ers, atakes, Option.some.injEq, Prod.mk.injEq] at ht
    obtain ⟨rfl, rfl⟩ := ht
    exact ⟨[], Sc, by simp [ers], rfl, h, rfl, by simp [PlL], fun u hu _ => hu⟩
  | x :: xs, Sc, L, h, hr, hw, hk, hf, ys', S', ht => by
    simp only [RefOkL] at hr
    simp only [WfL] at hw
    simp only [OkL] at hk
    simp only [fps, List.append_eq_nil_iff] at hf
    simp only [ers, atakes] at ht
    split at ht
    · cases ht
    rename_i hno
    have hno' : ∀ rp ∈ refs x, hits rp.1 rp.2 xs = false := by
      intro rp hrp
      simp only [refs_er, List.any_eq_true, not_exists, not_and, hits_er] at hno
      simpa using hno rp hrp
    cases htx : atake (ers Sc) (er x) with
    | none => simp [htx] at ht
    | some yS =>
      obtain ⟨y', S1⟩ := yS
      simp only [htx] at ht
      obtain ⟨y, Sc1, e1, e2, hG, hfl, hpl, hag, hrf⟩ := take_good x Sc L h hr.1 hw.1 hk.1 hf.1 y' S1 htx
      have hr2 : RefOkL Sc1 xs := by
        rw [refOkL_iff] at hr ⊢
        intro u hu
        refine hrf u (hr.2 u hu) fun rp hrp => ?_
        exact hits_mem hu (hno' rp hrp)
      rw [← e2] at ht
      cases hts : atakes (ers Sc1) (ers xs) with
      | none => simp [hts] at ht
      | some yS2 =>
        obtain ⟨ys1, S2⟩ := yS2
        simp only [hts, Option.some.injEq, Prod.mk.injEq] at ht
        obtain ⟨rfl, rfl⟩ := ht
        obtain ⟨ys, Sc2, f1, f2, hG2, hfl2, hpl2, hrf2⟩ := takes_good xs Sc1 (y :: L) hG hr2 hw.2 hk.2 hf.2 ys1 S2 hts
        refine ⟨y :: ys, Sc2, by simp [ers, e1, f1], f2, ?_, by simp [flats, hfl, hfl2], by simp [PlL, hpl, hpl2], ?_⟩
        · refine hG2.beside ?_ (Fits.of_perm ?_) ?_
          · have := ((okL_append _ _).1 hG2.ok).2
            rw [okL_iff] at this ⊢
            intro z hz; exact this z (by simp at hz ⊢; rcases hz with h | h | h <;> simp [h])
          · simp only [fps_append, fps, List.cons_append]
            rw [← List.append_assoc, ← List.append_assoc]
            exact List.Perm.append_right _ List.perm_append_comm
          · intro z hz; exact hG2.nr z (by simp at hz ⊢; rcases hz with h | h | h <;> simp [h])
        · intro u hu hh
          refine hrf2 u (hrf u hu fun rp hrp => hh rp (by simp [refss, hrp])) fun rp hrp => hh rp (by simp [refss, hrp])
end
end
end Go.Bv
