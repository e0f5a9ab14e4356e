/- append of elements that are handed over out of a list that stays. Generic: no program. -/
import Derived.Test.YtlgdijjkegeccaaBvM5
namespace Go.Bv
open Go Go.RowKit
set_option linter.unusedSimpArgs false
set_option linter.unusedVariables false

/-- What is left of a value that was handed over: it shows, and is nobody's. -/
def blankC (x : CV) : CV := .agg ((flat x).map .undef)
def blankA (x : AV) : AV := .agg (List.replicate (alen x) .undef)
theorem ers_undefs (vs : List Value) : ers (vs.map .undef) = List.replicate vs.length .undef := by
  induction vs with
  | nil => rfl
  | cons v vs ih => simp [ers, er, ih, List.replicate_succ]
theorem flats_undefs (vs : List Value) : flats (vs.map .undef) = vs := by
  induction vs with
  | nil => rfl
  | cons v vs ih => simp [flats, flat, ih]
theorem fps_undefs (vs : List Value) : fps (vs.map .undef) = [] := by
  induction vs with
  | nil => rfl
  | cons v vs ih => simp [fps, fp, ih]
theorem er_blank (x : CV) : er (blankC x) = blankA (er x) := by simp only [blankC, blankA, er, ers_undefs, alen_er]
theorem flat_blank (x : CV) : flat (blankC x) = flat x := by simp only [blankC, flat, flats_undefs]
theorem fp_blank (x : CV) : fp (blankC x) = [] := by simp only [blankC, fp, fps_undefs]
theorem ok_blank {w : World} {Z : Nat → Prop} (x : CV) : Ok w Z (blankC x) := by
  simp only [blankC, Ok]
  rw [okL_iff]
  intro y hy
  obtain ⟨v, _, rfl⟩ := List.mem_map.1 hy
  simp [Ok]
theorem pl_blank {x : CV} (h : Pl x) : Pl (blankC x) := by
  simp only [blankC, Pl]
  rw [plL_iff]
  intro y hy
  obtain ⟨v, hv, rfl⟩ := List.mem_map.1 hy
  simp only [Pl]
  exact Pl.one x h v hv
theorem flats_blanks (xs : List CV) : flats (xs.map blankC) = flats xs := by
  induction xs with
  | nil => rfl
  | cons x xs ih => simp [flats, flat_blank, ih]
theorem fps_blanks (xs : List CV) : fps (xs.map blankC) = [] := by
  induction xs with
  | nil => rfl
  | cons x xs ih => simp [fps, fp_blank, ih]
theorem ers_blanks (xs : List CV) : ers (xs.map blankC) = (ers xs).map blankA := by
  induction xs with
  | nil => rfl
  | cons x xs ih => simp [ers, er_blank, ih]
/-- A list of which n elements from lo on were handed over. -/
def blanks (lo n : Nat) (xs : List AV) : List AV := xs.take lo ++ (((xs.drop lo).take n).map blankA ++ (xs.drop lo).drop n)
def cblanks (lo n : Nat) (xs : List CV) : List CV := xs.take lo ++ (((xs.drop lo).take n).map blankC ++ (xs.drop lo).drop n)
theorem cut3 (lo n : Nat) (xs : List CV) : xs = xs.take lo ++ ((xs.drop lo).take n ++ (xs.drop lo).drop n) := by rw [List.take_append_drop, List.take_append_drop]
theorem ers_cblanks (lo n : Nat) (xs : List CV) : ers (cblanks lo n xs) = blanks lo n (ers xs) := by
  simp only [cblanks, blanks, ers_append, ers_blanks]
  simp [ers_eq, List.map_take, List.map_drop]
theorem flats_cblanks (lo n : Nat) (xs : List CV) : flats (cblanks lo n xs) = flats xs := by
  conv => rhs; rw [cut3 lo n xs]
  simp only [cblanks, flats_append, flats_blanks]
theorem len_cblanks (lo n : Nat) (xs : List CV) : (cblanks lo n xs).length = xs.length := by
  conv => rhs; rw [cut3 lo n xs]
  simp only [cblanks, List.length_append, List.length_map]
theorem mem_cblanks {lo n : Nat} {xs : List CV} {u : CV} (h : u ∈ cblanks lo n xs) : u ∈ xs ∨ ∃ x ∈ xs, u = blankC x := by
  simp only [cblanks, List.mem_append, List.mem_map] at h
  rcases h with h | ⟨x, h, rfl⟩ | h
  · exact .inl (List.mem_of_mem_take h)
  · exact .inr ⟨x, List.mem_of_mem_drop (List.mem_of_mem_take h), rfl⟩
  · exact .inl (List.mem_of_mem_drop (List.mem_of_mem_drop h))
mutual
/-- Does it lean on what lies below the path? -/
def dhit (r : Nat) (p : List Nat) : CV → Bool
  | .at r' q _ => r == r' && p.isPrefixOf q && p != q
  | .ref r' q _ _ _ => r == r' && p.isPrefixOf q && p != q
  | .agg xs => dhits r p xs
  | .tup xs => dhits r p xs
  | .fn _ xs => dhits r p xs
  | .ip _ x => dhit r p x
  | _ => false
def dhits (r : Nat) (p : List Nat) : List CV → Bool
  | [] => false
  | x :: xs => dhit r p x || dhits r p xs
end
mutual
def dhitA (r : Nat) (p : List Nat) : AV → Bool
  | .at r' q => r == r' && p.isPrefixOf q && p != q
  | .ref r' q _ _ => r == r' && p.isPrefixOf q && p != q
  | .agg xs => dhitAs r p xs
  | .tup xs => dhitAs r p xs
  | .fn _ xs => dhitAs r p xs
  | .ip x => dhitA r p x
  | _ => false
def dhitAs (r : Nat) (p : List Nat) : List AV → Bool
  | [] => false
  | x :: xs => dhitA r p x || dhitAs r p xs
end
mutual
theorem dhit_er (r : Nat) (p : List Nat) : ∀ x : CV, dhitA r p (er x) = dhit r p x
  | .agg xs => by simp only [er, dhitA, dhit]; exact dhits_er r p xs
  | .tup xs => by simp only [er, dhitA, dhit]; exact dhits_er r p xs
  | .fn _ xs => by simp only [er, dhitA, dhit]; exact dhits_er r p xs
  | .ip _ x => by simp only [er, dhitA, dhit]; exact dhit_er r p x
  | .undef _ | .bool _ | .int _ _ | .str _ | .lst _ _ _ _ _ | .at _ _ _ | .ref _ _ _ _ _ | .box _ _ _ => by simp [er, dhitA, dhit]
theorem dhits_er (r : Nat) (p : List Nat) : ∀ xs : List CV, dhitAs r p (ers xs) = dhits r p xs
  | [] => by simp [ers, dhitAs, dhits]
  | x :: xs => by simp only [ers, dhitAs, dhits, dhit_er r p x, dhits_er r p xs]
end
theorem dhits_mem {r : Nat} {p : List Nat} : ∀ {xs : List CV}, dhits r p xs = false → ∀ u ∈ xs, dhit r p u = false
  | [], _, _, h => by cases h
  | x :: xs, hh, u, h => by
    simp only [dhits, Bool.or_eq_false_iff] at hh
    rcases List.mem_cons.1 h with rfl | h
    · exact hh.1
    · exact dhits_mem hh.2 u h
theorem cset_at {Sc : List CV} {r : Nat} {p : List Nat} {y : CV} {x : CV} (hx : Sc[r]? = some x) (t : Nat) : (cset Sc r p y)[t]? = if t = r then some (csetR x p y) else Sc[t]? := by
  unfold cset
  simp only [hx]
  by_cases e : t = r
  · subst e
    rw [List.getElem?_set_self (List.getElem?_eq_some_iff.1 hx).1, if_pos rfl]
  · rw [List.getElem?_set_ne (Ne.symm e), if_neg e]
mutual
/-- References to a list keep, when its elements are turned. -/
theorem RefOk.elems {Sc : List CV} {r : Nat} {p : List Nat} {x0 : CV} {s0 c0 : Nat} {A0 l0 : Option Addr} {us vs : List CV} (hx : Sc[r]? = some x0) (hp : Pl (rootC x0).1) (hy : Pl (.lst true s0 A0 c0 vs))
    (hg : cgetN (rootC x0).1 (rootC x0).2 p = some (.lst true s0 A0 c0 us, l0)) (hl : vs.length = us.length) : ∀ x : CV, dhit r p x = false → RefOk Sc x → RefOk (cset Sc r p (.lst true s0 A0 c0 vs)) x
  | .at r' q a, hh, h => by
    simp only [dhit] at hh
    simp only [RefOk] at h ⊢
    obtain ⟨x1, y1, h1, h2, h3⟩ := h
    by_cases e : r' = r
    · subst e
      rw [hx] at h1; cases h1
      have hpq : p.isPrefixOf q = true → p = q := fun h' => by simp [h'] at hh; exact hh
      obtain ⟨z', g1, g2, g3⟩ := get_set p q _ _ _ l0 (.lst true s0 A0 c0 vs) y1 _ hg (by simp [flat]) h3 hpq
      refine ⟨_, z', by rw [cset_at hx, if_pos rfl], ?_, ?_⟩
      · rw [rootC_csetR hp hy]; exact Pl.set p _ _ hp hy
      · rw [rootC_csetR hp hy]; exact g1
    · exact ⟨x1, y1, by rw [cset_at hx, if_neg e, h1], h2, h3⟩
  | .ref r' q lo n v, hh, h => by
    simp only [dhit] at hh
    simp only [RefOk] at h ⊢
    obtain ⟨x1, s, A, c, xs, l, h1, h2, h3, h4, h5⟩ := h
    by_cases e : r' = r
    · subst e
      rw [hx] at h1; cases h1
      have hpq : p.isPrefixOf q = true → p = q := fun h' => by simp [h'] at hh; exact hh
      obtain ⟨z', g1, g2, g3⟩ := get_set p q _ _ _ l0 (.lst true s0 A0 c0 vs) _ _ hg (by simp [flat]) h3 hpq
      by_cases e2 : p = q
      · subst e2
        have := g2 rfl
        subst this
        rw [hg] at h3
        simp only [Option.some.injEq, Prod.mk.injEq, CV.lst.injEq, true_and] at h3
        obtain ⟨⟨rfl, rfl, rfl, rfl⟩, rfl⟩ := h3
        refine ⟨_, s0, A0, c0, vs, l0, by rw [cset_at hx, if_pos rfl], ?_, ?_, by omega, h5⟩
        · rw [rootC_csetR hp hy]; exact Pl.set p _ _ hp hy
        · rw [rootC_csetR hp hy]; exact g1
      · obtain ⟨ys, rfl, hlen⟩ := g3 e2
        refine ⟨_, s, A, c, ys, l, by rw [cset_at hx, if_pos rfl], ?_, ?_, by omega, h5⟩
        · rw [rootC_csetR hp hy]; exact Pl.set p _ _ hp hy
        · rw [rootC_csetR hp hy]; exact g1
    · exact ⟨x1, s, A, c, xs, l, by rw [cset_at hx, if_neg e, h1], h2, h3, h4, h5⟩
  | .agg xs, hh, h => by simp only [dhit, RefOk] at hh h ⊢; exact RefOkL.elems hx hp hy hg hl xs hh h
  | .tup xs, hh, h => by simp only [dhit, RefOk] at hh h ⊢; exact RefOkL.elems hx hp hy hg hl xs hh h
  | .fn _ xs, hh, h => by simp only [dhit, RefOk] at hh h ⊢; exact RefOkL.elems hx hp hy hg hl xs hh h
  | .ip _ x, hh, h => by simp only [dhit, RefOk] at hh h ⊢; exact RefOk.elems hx hp hy hg hl x hh h
  | .undef _, _, _ | .bool _, _, _ | .int _ _, _, _ | .str _, _, _ | .lst _ _ _ _ _, _, _ | .box _ _ _, _, _ => by simp [RefOk]
theorem RefOkL.elems {Sc : List CV} {r : Nat} {p : List Nat} {x0 : CV} {s0 c0 : Nat} {A0 l0 : Option Addr} {us vs : List CV} (hx : Sc[r]? = some x0) (hp : Pl (rootC x0).1) (hy : Pl (.lst true s0 A0 c0 vs))
    (hg : cgetN (rootC x0).1 (rootC x0).2 p = some (.lst true s0 A0 c0 us, l0)) (hl : vs.length = us.length) : ∀ xs : List CV, dhits r p xs = false → RefOkL Sc xs → RefOkL (cset Sc r p (.lst true s0 A0 c0 vs)) xs
  | [], _, _ => by simp [RefOkL]
  | x :: xs, hh, h => by
    simp only [dhits, Bool.or_eq_false_iff] at hh
    simp only [RefOkL] at h ⊢
    exact ⟨RefOk.elems hx hp hy hg hl x hh.1 h.1, RefOkL.elems hx hp hy hg hl xs hh.2 h.2⟩
end
theorem NR.hit {r : Nat} {p : List Nat} {x : CV} (h : NR x) : hit r p x = false := by
  cases x
  case box b ty z => rfl
  case tup xs =>
    simp only [NR] at h
    simp only [Bv.hit]
    induction xs with
    | nil => rfl
    | cons y ys ih =>
      simp only [hits, Bool.or_eq_false_iff]
      refine ⟨?_, ih fun z hz => h z (List.mem_cons_of_mem _ hz)⟩
      rcases h y (List.mem_cons_self ..) with ⟨v, rfl⟩ | hp
      · rfl
      · exact Pl.hit r p y hp
  all_goals exact Pl.hit r p _ h
theorem fps_cclrN {r : Nat} {p : List Nat} : ∀ {X : List CV}, (∀ x ∈ X, hit r p x = true → fp x = []) → fps (cclr r p X) = fps X
  | [], _ => rfl
  | x :: X, h => by
    have ih := fps_cclrN (X := X) fun y hy => h y (List.mem_cons_of_mem _ hy)
    simp only [cclr, List.map_cons, fps] at ih ⊢
    rw [ih]
    split
    · rw [h x (List.mem_cons_self ..) ‹_›]; rfl
    · rfl
/-- The elements that a reference shows, and the frame without them. -/
def apart (S : List AV) (r : Nat) (p : List Nat) (lo n : Nat) : Option (Nat × List AV × List AV) := match aget S r p with
  | some (.lst true s xs) => if dhitAs r p S = false then some (s, (xs.drop lo).take n, aset S r p (.lst true s (blanks lo n xs))) else none
  | _ => none

section
variable {K : Nat → Prop} {w0 : World} {Z : Nat → Prop} {Sc L : List CV} {a : Act} {w : World} {P : Program} {Γ : Tab}
/-- What was cleared and still holds, set back. -/
theorem Good.unclr {L' : List CV} {r : Nat} {p : List Nat} {x0 : CV} {s0 c0 : Nat} {A0 l0 : Option Addr} {us vs : List CV} (h : Good K w0 Z Sc L a w) (hG : Good K w0 Z (csetc Sc r p (.lst true s0 A0 c0 vs)) L' a w) (hx : Sc[r]? = some x0) (hp : Pl (rootC x0).1) (hy : Pl (.lst true s0 A0 c0 vs))
    (hg : cgetN (rootC x0).1 (rootC x0).2 p = some (.lst true s0 A0 c0 us, l0)) (hl : vs.length = us.length) (hd : dhits r p Sc = false) : Good K w0 Z (cset Sc r p (.lst true s0 A0 c0 vs)) L' a w := by
  have hin : ∀ u ∈ cset Sc r p (.lst true s0 A0 c0 vs), u ∈ Sc ∨ u = csetR x0 p (.lst true s0 A0 c0 vs) := fun u hu => by
    obtain ⟨t, ht⟩ := List.getElem?_of_mem hu
    rw [cset_at hx] at ht
    split at ht
    · simp only [Option.some.injEq] at ht; exact .inr ht.symm
    · exact .inl (List.mem_of_getElem? ht)
  have hroot : csetR x0 p (.lst true s0 A0 c0 vs) ∈ csetc Sc r p (.lst true s0 A0 c0 vs) := List.mem_of_getElem? (i := r) (by rw [cset_slot hx hp hy, if_pos rfl])
  have hpR : Pl (rootC (csetR x0 p (.lst true s0 A0 c0 vs))).1 := by rw [rootC_csetR hp hy]; exact Pl.set p _ _ hp hy
  have hokS := (okL_append _ _).1 h.ok
  have hokG := (okL_append _ _).1 hG.ok
  have hfp : ∀ u ∈ cset Sc r p (.lst true s0 A0 c0 vs), hit r p u = true → fp u = [] := fun u hu hh => by
    rcases hin u hu with hm | rfl
    · rcases h.sorted u hm with hn | hn
      · rw [hn.hit] at hh; cases hh
      · exact NoOwn.fp u hn ((okL_iff _).1 hokS.1 u hm)
    · rw [root_hit hpR] at hh; cases hh
  refine hG.turn (by simp [csetc, cclr]) (fun t => ?_) ?_ ?_ ?_ ?_ ?_ hG.nr
  · rw [cset_at hx, cset_slot hx hp hy]
    split
    · rfl
    · simp only [Option.map_map]
      congr 1; funext z
      simp only [Function.comp]
      split
      · exact (val_undef _).symm
      · rfl
  · rw [okL_append, okL_iff]
    refine ⟨fun u hu => ?_, hokG.2⟩
    rcases hin u hu with hm | rfl
    · exact (okL_iff _).1 hokS.1 u hm
    · exact (okL_iff _).1 hokG.1 _ hroot
  · rw [fps_append, fps_append]
    unfold csetc
    rw [fps_cclrN hfp]
    exact Fits.refl _
  · intro u hu
    rcases hin u hu with hm | rfl
    · exact RefOk.elems hx hp hy hg hl u (dhits_mem hd u hm) (h.refs u hm)
    · rcases root_cases hp with ⟨b, ty, z, rfl, hz⟩ | ⟨hz, hrt, hcs⟩
      · simp [csetR, RefOk]
      · rw [hcs]; exact (Pl.set p _ _ hz hy).refOk
  · intro u hu
    rcases hin u hu with hm | rfl
    · exact h.wf u hm
    · exact hG.wf _ hroot
  · intro u hu
    rcases hin u hu with hm | rfl
    · exact h.sorted u hm
    · exact hG.sorted _ hroot
theorem part_good (h : Good K w0 Z Sc L a w) {r lo n : Nat} {p : List Nat} {v : Value} (hr : RefOk Sc (.ref r p lo n v)) {s : Nat} {ys S' : List AV} (ht : apart (ers Sc) r p lo n = some (s, ys, S')) :
    ∃ B cb ysC Sc', v = .slice B n cb ∧ ysC.length = n ∧ ers ysC = ys ∧ ers Sc' = S' ∧ Good K w0 Z Sc' (.agg ysC :: L) a w ∧ PlL ysC ∧ (∀ x ∈ ysC, (flat x).length = s) ∧ (ysC.length = 0 ∨ ∃ b, B = some b ∧ CellsAt w b (flats ysC)) := by
  simp only [RefOk] at hr
  obtain ⟨x0, s0, A, c, xs, l, hx, hp, hg, hlo, hh⟩ := hr
  have hga : aget (ers Sc) r p = some (.lst true s0 (ers xs)) := by
    have := er_cget (Sc := Sc) (r := r) (p := p) (y := .lst true s0 A c xs) (l := l) (by simp [cget, hx, hg])
    simpa [er] using this
  simp only [apart, hga] at ht
  split at ht
  case isFalse => cases ht
  rename_i hdh
  rw [dhits_er] at hdh
  simp only [Option.some.injEq, Prod.mk.injEq] at ht
  obtain ⟨rfl, rfl, rfl⟩ := ht
  have hokx := ((okL_cut hx).1 ((okL_append _ _).1 h.ok).1).2.1
  have hoky : Ok w Z (.lst true s0 A c xs) := ok_get p _ _ _ l hg (ok_root hokx).1
  have hply : Pl (.lst true s0 A c xs) := Pl.get p _ _ _ l hg hp
  obtain ⟨A', c', rfl, hk', _⟩ := sub_ok hoky hlo hh
  have hlen : ((xs.drop lo).take n).length = n := by simp; omega
  simp only [Ok] at hoky
  obtain ⟨g1, g2, g3, g4⟩ := hoky
  simp only [Pl] at hply
  rw [plL_iff] at hply
  rw [okL_iff] at g4
  have hfpy : fp (.lst true s0 A c xs) = fp (.lst true s0 A c []) ++ (fps (xs.take lo) ++ (fps ((xs.drop lo).take n) ++ fps ((xs.drop lo).drop n))) := by
    simp only [fp, fps, List.append_nil]
    rw [← fps_append, ← fps_append, ← cut3]
  have hfpz : fp (.lst true s0 A c (cblanks lo n xs)) = fp (.lst true s0 A c []) ++ (fps (xs.take lo) ++ fps ((xs.drop lo).drop n)) := by
    simp only [fp, fps, List.append_nil, cblanks, fps_append, fps_blanks, List.nil_append]
  have hplz : Pl (.lst true s0 A c (cblanks lo n xs)) := by
    simp only [Pl]
    rw [plL_iff]
    intro u hu
    rcases mem_cblanks hu with hu | ⟨x, hm, rfl⟩
    · exact hply u hu
    · exact pl_blank (hply x hm)
  obtain ⟨hG, _, P1, P2, e1, Q1, Q2, s1, s2, e2⟩ := h.reset (y' := .lst true s0 A c (cblanks lo n xs)) hx hp hg (by simp only [flat, len_cblanks])
    (by
      simp only [Ok]
      refine ⟨by rw [flats_cblanks, len_cblanks]; exact g1, fun u hu => ?_, by simp, ?_⟩
      · rcases mem_cblanks hu with hu | ⟨x, hm, rfl⟩
        · exact g2 u hu
        · rw [flat_blank]; exact g2 x hm
      · rw [okL_iff]
        intro u hu
        rcases mem_cblanks hu with hu | ⟨x, hm, rfl⟩
        · exact g4 u hu
        · exact ok_blank x)
    hplz
    (by
      rw [hfpy, hfpz]
      exact Fits.of_sublist (List.Sublist.append (List.Sublist.refl _) (List.Sublist.append (List.Sublist.refl _) (List.sublist_append_right _ _))))
    (Iff.intro (fun ⟨_, e⟩ => by cases e) (fun ⟨_, e⟩ => by cases e))
  refine ⟨A', c', (xs.drop lo).take n, cset Sc r p (.lst true s0 A c (cblanks lo n xs)), rfl, hlen, by rw [ers_eq, List.map_take, List.map_drop, ← ers_eq], by rw [er_cset]; simp [er, ers_cblanks], ?_, ?_, ?_, ?_⟩
  · have hfit : Fits (fps (csetc Sc r p (.lst true s0 A c (cblanks lo n xs)) ++ .agg ((xs.drop lo).take n) :: L)) (fps (Sc ++ L)) := by
      have e3 : fps (csetc Sc r p (.lst true s0 A c (cblanks lo n xs)) ++ .agg ((xs.drop lo).take n) :: L) =
          fps (csetc Sc r p (.lst true s0 A c (cblanks lo n xs))) ++ (fps ((xs.drop lo).take n) ++ fps L) := by simp only [fps_append, fps, fp]
      rw [e3, e1]
      rw [fps_append] at e2
      refine Fits.trans (b := fps ((xs.drop lo).take n) ++ (Q1 ++ (fp (.lst true s0 A c (cblanks lo n xs)) ++ Q2))) (Fits.of_perm ?_) ?_
      · rw [← e2, ← List.append_assoc, ← List.append_assoc]
        exact List.Perm.append_right _ List.perm_append_comm
      · refine Fits.trans (b := fps ((xs.drop lo).take n) ++ (P1 ++ (fp (.lst true s0 A c (cblanks lo n xs)) ++ P2))) (Fits.of_sublist (List.Sublist.append (List.Sublist.refl _) (List.Sublist.append s1 (List.Sublist.append (List.Sublist.refl _) s2)))) (Fits.of_perm ?_)
        rw [hfpy, hfpz]
        generalize fps ((xs.drop lo).take n) = m
        generalize fp (.lst true s0 A c []) = hd
        generalize fps (xs.take lo) = t1
        generalize fps ((xs.drop lo).drop n) = t2
        rw [List.perm_iff_count]
        intro q
        simp only [List.count_append]
        omega
    refine h.unclr (L' := .agg ((xs.drop lo).take n) :: L) ?_ hx hp hplz hg (len_cblanks lo n xs) hdh
    refine { hG with ok := ?_, nodup := hfit.nodup h.nodup, apart := fun b hb => h.apart b (hfit.sub b hb), lt := fun b hb => h.lt b (hb.imp (hfit.sub b) id), nr := ?_, kept := fun b hb => ⟨(h.kept b hb).1, fun hm => (h.kept b hb).2.1 (hfit.sub b hm), (h.kept b hb).2.2⟩ }
    · rw [okL_append]
      have := (okL_append _ _).1 hG.ok
      refine ⟨this.1, ?_, this.2⟩
      simp only [Ok]
      rw [okL_iff]
      exact fun u hu => g4 u (List.mem_of_mem_drop (List.mem_of_mem_take hu))
    · intro z hz
      rcases List.mem_cons.1 hz with rfl | hz
      · simp only [NR, Pl]
        rw [plL_iff]
        exact fun u hu => hply u (List.mem_of_mem_drop (List.mem_of_mem_take hu))
      · exact hG.nr z hz
  · rw [plL_iff]
    exact fun u hu => hply u (List.mem_of_mem_drop (List.mem_of_mem_take hu))
  · exact fun u hu => g2 u (List.mem_of_mem_drop (List.mem_of_mem_take hu))
  · simp only [Ok] at hk'
    rcases hk'.1.2.1 with q | ⟨b, q1, _, q2, _⟩
    · exact .inl q
    · exact .inr ⟨b, q1, q2⟩
theorem append3_sound (hT : TabOk P Γ) (h : Good K w0 Z Sc L a w) {o : Oper} {T E : Nat} {x y : Operand} (ho : o.op = .call { callee := .builtin .append, args := #[x, y], argTypes := #[T, T] }) (hk : Γ.kind T = .sl E) (hE : Γ.kind E ≠ .no)
    {z : AV} (hz : Γ.zero E = some z) (hs0 : Γ.size E ≠ 0) {dv : AV} (hx : ard (ers Sc) x = some dv) {s : Nat} {xs S1 : List AV} (ht : atake (ers Sc) dv = some (.lst true s xs, S1)) (hs : (s = 0 ∧ xs = []) ∨ s = Γ.size E)
    {r lo n : Nat} {p : List Nat} (hy : ard (ers Sc) y = some (.ref r p lo n)) (hno : ((arefs dv).any fun rp => hitA rp.1 rp.2 (.ref r p lo n)) = false) {s' : Nat} {ys S' : List AV} (hty : apart S1 r p lo n = some (s', ys, S')) (hs2 : (s' = 0 ∧ ys = []) ∨ s' = Γ.size E)
    (hm : xs.length + ys.length ≤ 9223372036854775807) (hbnd : (xs.length + ys.length) * Γ.bytes E ≤ 140737488355328) :
    ES P K w0 Z L a w o (aput o.dst (.lst true (Γ.size E) (xs ++ ys)) S') := by
  obtain ⟨cx, rfl, vx, hrd, hnt⟩ := h.rd hx
  obtain ⟨cy, ecy, vy0, hrdy, hnty⟩ := h.rd hy
  obtain ⟨vr, rfl⟩ := er_ref ecy
  obtain ⟨d, Sc1, e1, e2', hG1, hfl, hpl, hag, hrf⟩ := take_good cx Sc L h hrd.refOk hrd.wf hrd.ok hrd.fp _ S1 ht
  have hry : RefOk Sc1 (.ref r p lo n vr) := hrf _ hrdy.refOk fun rp hrp => by
    have hx : ∀ x, ¬ (x ∈ arefs (er cx) ∧ hitA x.1 x.2 (.ref r p lo n) = true) := by simpa using hno
    have := hx rp
    rw [refs_er, ← ecy, hit_er] at this
    cases hh : hit rp.1 rp.2 (.ref r p lo n vr) with
    | false => rfl
    | true => exact absurd ⟨hrp, hh⟩ this
  rw [← e2'] at hty
  obtain ⟨B, cb, ysC, Sc', hvr, hyn, f1, e2, hG2, p1, y4, p4⟩ := part_good hG1 hry hty
  obtain ⟨A, c, xsC, rfl, rfl⟩ := er_lst e1
  subst f1
  have hvd : a.eval x = .slice A xsC.length c := by rw [← vx, ← val_same hfl hpl hag hnt]; rfl
  have vy : a.eval y = .slice B ysC.length cb := by rw [← vy0, hyn, ← hvr]; rfl
  have hG : Good K w0 Z Sc' (.lst true s A c xsC :: .agg ysC :: L) a w := by
    refine hG2.beside ?_ (Fits.of_perm ?_) ?_
    · have := ((okL_append _ _).1 hG2.ok).2
      rw [okL_iff] at this ⊢
      intro z hz; exact this z (by simp at hz ⊢; rcases hz with h | h | h <;> simp [h])
    · simp only [fps]
      rw [← List.append_assoc, ← List.append_assoc]
      exact List.Perm.append_right _ List.perm_append_comm
    · intro z hz; exact hG2.nr z (by simp at hz ⊢; rcases hz with h | h | h <;> simp [h])
  have hdoky' : Ok w Z (.agg ysC) := ((okL_append _ _).1 hG.ok).2.2.1
  have p3 : OkL w Z ysC := by simpa only [Ok] using hdoky'
  obtain ⟨hz1, i, v, h1, h2, h3, h4⟩ := hT.zero E z hz
  obtain ⟨i', h1', hsz, hby⟩ := hT.size E hE
  rw [h1] at h1'; cases h1'
  have hu := hT.sl T E hk
  have hdok : Ok w Z (.lst true s A c xsC) := ((okL_append _ _).1 hG.ok).2.1
  have hdok' := hdok
  simp only [Ok] at hdok
  obtain ⟨⟨k1, k2, k3⟩, k4, _, k6⟩ := hdok
  have hplx : PlL xsC := by simpa only [Pl] using hpl
  have hyl : ∀ u ∈ ysC, (flat u).length = Γ.size E := fun u hu => by
    rcases hs2 with ⟨_, hs2⟩ | hs2
    · have : ysC = [] := by cases ysC <;> simp [ers] at hs2 ⊢
      subst this; simp at hu
    · rw [y4 u hu, hs2]
  have hxl : ∀ u ∈ xsC, (flat u).length = Γ.size E := fun u hu => by
    rcases hs with ⟨_, hs⟩ | hs
    · have : xsC = [] := by cases xsC <;> simp [ers] at hs ⊢
      subst this; simp at hu
    · rw [k4 u hu, hs]
  have hlens : ∀ us : List CV, (∀ u ∈ us, (flat u).length = Γ.size E) → (flats us).length = us.length * Γ.size E := by
    intro us
    induction us with
    | nil => intro _; simp [flats]
    | cons u us ih => intro hu; simp only [flats, List.length_append, List.length_cons, hu u (by simp), ih (fun q hq => hu q (by simp [hq]))]; rw [Nat.add_mul]; omega
  have hxlen := hlens xsC hxl
  have hylen := hlens ysC hyl
  have hrunof : ∀ v' w', (Builtin.append_ #[T, T] o.type #[.slice A xsC.length c, .slice B ysC.length cb]).run P w = .ok v' w' → (execOp a.eval o).run P w = .ok (.value v') w' := by
    intro v' w' hr
    unfold execOp
    simp only [ho, resolve, invoke, builtin, Sem.run_bind, Sem.run_pure, Result.andThen_ok, List.map_toArray, List.map_cons, List.map_nil, hvd, vy, hr]
  have hersl : (ers xsC).length = xsC.length := by simp [ers_eq]
  have hersl2 : (ers ysC).length = ysC.length := by simp [ers_eq]
  rw [hersl, hersl2] at hm hbnd
  have hnr : ∀ (A' : Option Addr) (c' : Nat), NR (.lst true (Γ.size E) A' c' (xsC ++ ysC)) := fun A' c' => by
    simp only [NR, Pl]
    rw [plL_iff] at hplx p1 ⊢
    intro u hu
    rcases List.mem_append.1 hu with hu | hu
    · exact hplx u hu
    · exact p1 u hu
  have hall : ∀ u ∈ xsC ++ ysC, (flat u).length = Γ.size E := fun u hu => by
    rcases List.mem_append.1 hu with hu | hu
    · exact hxl u hu
    · exact hyl u hu
  have hres : ∀ (A' : Option Addr) (c' : Nat), er (.lst true (Γ.size E) A' c' (xsC ++ ysC)) = .lst true (Γ.size E) (ers xsC ++ ers ysC) := fun A' c' => by simp [er, ers_append]
  -- s is the size, or there is no room
  have hsc : c ≠ 0 → s = Γ.size E := fun hc => by
    rcases hs with ⟨hs, _⟩ | hs
    · exact absurd hs (k3 rfl hc).1
    · exact hs
  by_cases hroom : xsC.length + ysC.length ≤ c
  · by_cases hm0 : ysC.length = 0
    · -- nothing comes
      have hy0 : ysC = [] := List.eq_nil_of_length_eq_zero hm0
      subst hy0
      have hrun := hrunof (.slice A (xsC.length + 0) c) w (run_app_room hu h1 (news := []) run_first_none (by simpa using hroom) (by cases A <;> simp [storeCells]))
      have hG2 : Good K w0 Z Sc' (.lst true (Γ.size E) A c xsC :: L) a w := by
        refine hG.beside ?_ (Fits.of_sublist ?_) ?_
        · simp only [OkL, Ok]
          have hL := ((okL_append _ _).1 hG.ok).2.2.2
          exact ⟨⟨⟨k1, k2, fun q hc => by have := k3 q hc; rw [hsc hc] at this; exact this⟩, hxl, by simp, k6⟩, hL⟩
        · simp only [fps, fp]
          exact List.Sublist.append (List.Sublist.refl _) (List.sublist_append_right _ _)
        · intro u hu
          rcases List.mem_cons.1 hu with rfl | hu
          · simpa using hnr A c
          · exact hG.nr u (by simp [hu])
      refine es_value hrun (Sc' := cput o.dst (.lst true (Γ.size E) A c xsC) Sc') ?_ ?_
      · rw [er_cput, e2]; simp [er, ers]
      · have := hG2.put o.dst
        simpa [val, val1, flat] using this
    · have hc0 : c ≠ 0 := by omega
      obtain ⟨hsn, ad, cur, E', rfl, hsp, hb, hcm, hrm⟩ := k3 rfl hc0
      obtain ⟨b, hB, hcb⟩ := p4.resolve_left hm0
      subst hB
      have hse := hsc hc0
      subst hse
      have hf : (Builtin.firstCells i.size ysC.length (.slice (some b) ysC.length cb)).run P w = .ok (flats ysC).toArray w :=
        run_firstCells_some w i.size ysC.length b ysC.length cb (flats ysC) (by rw [hylen, hsz]) hcb
      have hfit : ad.off + xsC.length * Γ.size E + (flats ysC).length ≤ cur.size := by
        rw [hylen, Nat.add_assoc, ← Nat.add_mul]
        exact Nat.le_trans (Nat.add_le_add_left (Nat.mul_le_mul_right _ hroom) _) hrm
      have had : ad.add (xsC.length * i.size) = ⟨ad.block, ad.off + xsC.length * Γ.size E, none⟩ := by rw [add_eq hsp, hsz]
      obtain ⟨hst, hnew⟩ := stored_setRow (w := w) (vs := flats ysC) hb hfit
      have hone : ∀ u ∈ flats ysC, u.oneCell' = true := fun u hu => Pl.one (.agg ysC) (by simpa only [Pl] using p1) u (by simpa [flat] using hu)
      have hcell := run_storeCells_at P ad.block (ad.off + xsC.length * Γ.size E) E' (flats ysC) 0 cur w hb (by simpa using hfit) hone
      simp only [Nat.add_zero] at hcell
      obtain ⟨W, hW⟩ : ∃ W, W = w.setRow ad.block (cur.toList.take (ad.off + xsC.length * Γ.size E) ++ flats ysC ++ cur.toList.drop (ad.off + xsC.length * Γ.size E + (flats ysC).length)).toArray := ⟨_, rfl⟩
      rw [← hW] at hst hnew hcell
      have hrun := hrunof _ W (run_app_room hu h1 (news := flats ysC) hf hroom (by simp only; rw [had]; exact hcell))
      have hbfp : ad.block ∈ fp (.lst true (Γ.size E) (some ad) c xsC) := by simp [fp, hc0]
      have hndd : (fp (.lst true (Γ.size E) (some ad) c xsC)).Nodup := by
        have := hG.nodup
        simp only [fps_append, fps] at this
        exact (List.nodup_append.1 (List.nodup_append.1 this).2.1).1
      have hnx : ∀ k ∈ fps xsC, k ≠ ad.block := fun k hk e => by
        simp only [fp, hc0, or_false, Bool.true_eq_false, if_false, Option.map_some, Option.toList_some, List.singleton_append, List.nodup_cons] at hndd
        exact hndd.1 (e ▸ hk)
      have hnZ : ∀ k, Z k → k ≠ ad.block := fun k hk e => hG.apart ad.block (by simp [fps_append, fps, hbfp]) (e ▸ hk)
      have hny : ∀ k ∈ fps ysC, k ≠ ad.block := fun k hk e => by
        have := hG.nodup
        simp only [fps_append, fps] at this
        refine (List.nodup_append.1 (List.nodup_append.1 this).2.1).2.2 ad.block hbfp k ?_ e.symm
        simp [fp, hk]
      have hGa : Good K w0 Z Sc' (.agg [.lst true (Γ.size E) (some ad) c xsC, .agg ysC] :: L) a w := by
        refine hG.beside ?_ (Fits.of_sublist ?_) ?_
        · have hL := ((okL_append _ _).1 hG.ok).2.2.2
          simp only [OkL]
          exact ⟨by rw [Ok]; simp only [OkL]; exact ⟨hdok', hdoky', trivial⟩, hL⟩
        · simp [fps, fp]
        · intro u hu
          rcases List.mem_cons.1 hu with rfl | hu
          · simp only [NR, Pl, PlL]; exact ⟨hplx, p1, trivial⟩
          · exact hG.nr u (by simp [hu])
      have hbfp2 : ad.block ∈ fp (.agg [.lst true (Γ.size E) (some ad) c xsC, .agg ysC]) := by simp [fp, fps, hc0]
      have hG2 := hGa.inplace (y' := .lst true (Γ.size E) (some ad) c (xsC ++ ysC)) (w' := W) hbfp2 (fun k hk => hst.other k hk) (by rw [hW]; exact size_setRow _ _ _) (by rw [hW]; rfl) (by rw [hW]; rfl) (by rw [hW]; rfl) ?_ ?_ (hnr _ _)
      · refine es_value hrun (Sc' := cput o.dst (.lst true (Γ.size E) (some ad) c (xsC ++ ysC)) Sc') ?_ ?_
        · rw [er_cput, e2, hres]
        · have := hG2.put o.dst
          simpa [val, val1, flat] using this
      · simp only [Ok]
        refine ⟨⟨by simpa using hroom, .inr ⟨ad, rfl, hsp, ?_, by simp⟩, fun _ _ => ?_⟩, hall, by simp, ?_⟩
        · rw [flats_append, cellsAt_append hsp]
          refine ⟨?_, ?_⟩
          · by_cases hn0 : xsC.length = 0
            · have : xsC = [] := List.eq_nil_of_length_eq_zero hn0
              subst this
              intro j u hj; simp [flats] at hj
            · obtain ⟨ad', q1, q2, q3, _⟩ := k2.resolve_left hn0
              simp only [Option.some.injEq] at q1
              subst q1
              exact hst.cellsAt hsp q3 fun _ => .inl (by rw [hxlen]; exact Nat.le_refl _)
          · rw [hxlen, add_eq hsp]; exact hnew
        · obtain ⟨cur', c1, c2⟩ := hst.hit cur E' hb
          exact ⟨hs0, ad, cur', E', rfl, hsp, c1, hcm, by rw [c2]; exact hrm⟩
        · rw [okL_append]
          exact ⟨OkL.congr (fun _ h => h) (fun k hk => hst.other k (hnZ k hk)) _ (fun k hk => hst.other k (hnx k hk)) k6, OkL.congr (fun _ h => h) (fun k hk => hst.other k (hnZ k hk)) _ (fun k hk => hst.other k (hny k hk)) p3⟩
      · refine Fits.of_sublist ?_
        simp only [fp, fps, fps_append, hc0, or_false, Bool.true_eq_false, if_false, List.append_nil, List.append_assoc]
        exact List.Sublist.refl _
  · -- a new block
    have hm0 : ysC.length ≠ 0 := by omega
    obtain ⟨b, hB, hcb⟩ := p4.resolve_left hm0
    subst hB
    have hgc := grownCap_ge w (xsC.length + ysC.length) c E
    have hgm := grownCap_le_maxLen w (xsC.length + ysC.length) c E (by unfold maxLen; omega)
    obtain ⟨g, hg⟩ : ∃ g, g = grownCap w (xsC.length + ysC.length) c E := ⟨_, rfl⟩
    have hrun : (Builtin.append_ #[T, T] o.type #[.slice A xsC.length c, .slice (some b) ysC.length cb]).run P w =
        .ok (.slice (some ⟨w.heap.size, 0, none⟩) (xsC.length + ysC.length) g) (w.drew.alloc (.cells ((flats xsC).toArray ++ (flats ysC).toArray ++ Builtin.zeroCells v.cells (g - (xsC.length + ysC.length))) E)) := by
      rw [hg]
      have hfits := growslice_fits (need := xsC.length + ysC.length) (old := c) (bytes := i.bytes) (by omega) (by rw [hby]; exact hbnd)
      cases A with
      | some ad =>
        have holds : ∀ j u, (flats xsC)[j]? = some u → w.cell? (ad.add j) = some u := by
          rcases k2 with hn0 | ⟨ad', q1, q2, q3, _⟩
          · have : xsC = [] := List.eq_nil_of_length_eq_zero hn0
            subst this
            intro j u hj; simp [flats] at hj
          · simp only [Option.some.injEq] at q1
            subst q1
            exact q3
        exact run_append_grow (P := P) w T o.type E i v hu h1 h2 ad xsC.length c (flats xsC) (by rw [hxlen, hsz]) holds b ysC.length cb (flats ysC) (by rw [hylen, hsz]) hcb (by omega) (by omega) hfits
      | none =>
        have hc0 : c = 0 := by
          by_cases hc : c = 0
          · exact hc
          · obtain ⟨_, ad, _, _, q, _⟩ := k3 rfl hc; cases q
        have hn0 : xsC.length = 0 := by omega
        have : xsC = [] := List.eq_nil_of_length_eq_zero hn0
        subst this; subst hc0
        have hr := run_append_nil (P := P) w T o.type E i v hu h1 h2 b ysC.length cb (flats ysC) (by rw [hylen, hsz]) hcb (by omega) (by have := hm; simp only [List.length_nil, Nat.zero_add] at this; omega) (by
          have := hbnd; rw [hby]; simp only [List.length_nil, Nat.zero_add] at this; omega)
        simpa [flats] using hr
    have hrun' := hrunof _ _ hrun
    rw [← hg] at hgc hgm
    have hGd : Good K w0 Z Sc' ([.lst true s A c xsC, .agg ysC] ++ L) a w.drew := hG.world (fun _ _ => rfl) (Nat.le_refl _) rfl rfl rfl
    have hG2 := hGd.block (M := [.lst true s A c xsC, .agg ysC]) (L := L) (c := .lst true (Γ.size E) (some ⟨w.heap.size, 0, none⟩) g (xsC ++ ysC)) (o := .cells ((flats xsC).toArray ++ (flats ysC).toArray ++ Builtin.zeroCells v.cells (g - (xsC.length + ysC.length))) E) ?_ ?_ (hnr _ _)
    · refine es_value hrun' (Sc' := cput o.dst (.lst true (Γ.size E) (some ⟨w.heap.size, 0, none⟩) g (xsC ++ ysC)) Sc') ?_ ?_
      · rw [er_cput, e2, hres]
      · have := hG2.put o.dst
        simpa [val, val1, flat] using this
    · have hg0 : g ≠ 0 := by omega
      simp only [fp, fps_append, fps, List.append_nil, hg0, or_false, Bool.true_eq_false, if_false, Option.map_some, Option.toList_some, List.singleton_append]
      refine Fits.of_sublist ?_
      refine List.Sublist.cons_cons _ ?_
      exact List.Sublist.append (List.sublist_append_right _ _) (List.Sublist.refl _)
    · have hold : ∀ k, k < w.heap.size → (w.drew.alloc (.cells ((flats xsC).toArray ++ (flats ysC).toArray ++ Builtin.zeroCells v.cells (g - (xsC.length + ysC.length))) E)).heap[k]? = w.heap[k]? := fun k hk => heap_alloc_old w.drew _ k hk
      have hnewb := heap_alloc_new w.drew (.cells ((flats xsC).toArray ++ (flats ysC).toArray ++ Builtin.zeroCells v.cells (g - (xsC.length + ysC.length))) E)
      simp only [Ok]
      refine ⟨⟨by simpa using hgc, .inr ⟨_, rfl, rfl, ?_, by simp⟩, fun _ _ => ⟨hs0, _, _, _, rfl, rfl, hnewb, hgm, ?_⟩⟩, hall, by simp, ?_⟩
      · rw [cellsAt_iff rfl]
        intro j u hj
        have hj' := (List.getElem?_eq_some_iff.1 hj).1
        have hc : (w.drew.alloc (.cells ((flats xsC).toArray ++ (flats ysC).toArray ++ Builtin.zeroCells v.cells (g - (xsC.length + ysC.length))) E)).cell? ⟨w.heap.size, 0 + j, none⟩ =
            ((flats xsC).toArray ++ (flats ysC).toArray ++ Builtin.zeroCells v.cells (g - (xsC.length + ysC.length)))[0 + j]? := by
          simp only [World.cell?]
          have : (w.drew.alloc (.cells ((flats xsC).toArray ++ (flats ysC).toArray ++ Builtin.zeroCells v.cells (g - (xsC.length + ysC.length))) E)).heap[w.heap.size]? = _ := hnewb
          rw [this]
          simp
        rw [hc, Nat.zero_add]
        rw [flats_append] at hj hj'
        rw [Array.getElem?_append_left (by simpa using hj')]
        simpa using hj
      · simp only [Array.size_append, List.size_toArray, size_zeroCells, h4, hsz, hxlen, hylen, ← Nat.add_mul, Nat.zero_add]
        exact Nat.mul_le_mul_right _ (by omega)
      · rw [okL_append]
        have hlt : ∀ k, (k ∈ fps xsC ∨ Z k) → k < w.heap.size := fun k hk => hG.lt k (hk.imp (fun hk => by simp [fps_append, fps, fp, hk]) id)
        exact ⟨OkL.congr (fun _ h => h) (fun k hk => hold k (hlt k (.inr hk))) _ (fun k hk => hold k (hlt k (.inl hk))) k6, OkL.congr (fun _ h => h) (fun k hk => hold k (hlt k (.inr hk))) _ (fun k hk => hold k (hG.lt k (.inl (by simp [fps_append, fps, fp, hk])))) p3⟩

variable {S : List AV} {ops : Array Oper} {l : List Oper} {o : Oper} {N : List AV → Prop}
theorem o_append3 (hT : TabOk P Γ) {T E r lo n : Nat} {p : List Nat} {x y : Operand} {z dv : AV} {s s' : Nat} {xs ys S1 S' S'' : List AV} (ho : o.op = .call { callee := .builtin .append, args := #[x, y], argTypes := #[T, T] }) (hk : Γ.kind T = .sl E) (hE : Γ.kind E ≠ .no)
    (hz : Γ.zero E = some z) (hs0 : Γ.size E ≠ 0) (hx : ard S x = some dv) (ht : atake S dv = some (.lst true s xs, S1)) (hs : (s = 0 ∧ xs = []) ∨ s = Γ.size E)
    (hy : ard S y = some (.ref r p lo n)) (hno : ((arefs dv).any fun rp => hitA rp.1 rp.2 (.ref r p lo n)) = false) (hty : apart S1 r p lo n = some (s', ys, S')) (hs2 : (s' = 0 ∧ ys = []) ∨ s' = Γ.size E)
    (hm : xs.length + ys.length ≤ 9223372036854775807) (hbnd : (xs.length + ys.length) * Γ.bytes E ≤ 140737488355328) (hp : aput o.dst (.lst true (Γ.size E) (xs ++ ys)) S' = S'') : AO P o S S'' :=
  hp ▸ es_AO fun K w0 Z Sc a w e hG => by subst e; exact append3_sound hT hG ho hk hE hz hs0 hx ht hs hy hno hty hs2 hm hbnd
theorem as_pt (hT : TabOk P Γ) {T E r lo n : Nat} {p : List Nat} {x y : Operand} {z dv : AV} {s s' : Nat} {xs ys S1 S' S'' : List AV} (hg : gchk ops S o = some true := by exact gchk_none rfl) (ho : o.op = .call { callee := .builtin .append, args := #[x, y], argTypes := #[T, T] } := by rfl) (hk : Γ.kind T = .sl E := by simp only [go_sem]; first | done | with_reducible rfl) (hE : Γ.kind E ≠ .no := by simp only [go_sem]; first | done | fail)
    (hz : Γ.zero E = some z := by simp only [go_sem]; first | done | with_reducible rfl) (hs0 : Γ.size E ≠ 0 := by simp only [go_sem]; first | done | fail) (hx : ard S x = some dv := by simp only [go_sem, *]; first | done | with_reducible rfl) (ht : atake S dv = some (.lst true s xs, S1) := by simp only [go_sem, *]; first | done | with_reducible rfl) (hs : (s = 0 ∧ xs = []) ∨ s = Γ.size E := by simp only [go_sem, *]; first | done | fail)
    (hy : ard S y = some (.ref r p lo n) := by simp only [go_sem, *]; first | done | with_reducible rfl) (hno : ((arefs dv).any fun rp => hitA rp.1 rp.2 (.ref r p lo n)) = false := by simp only [go_sem, *]; first | done | fail) (hty : apart S1 r p lo n = some (s', ys, S') := by simp only [go_sem, *]; first | done | with_reducible rfl) (hs2 : (s' = 0 ∧ ys = []) ∨ s' = Γ.size E := by simp only [go_sem, *]; first | done | fail)
    (hm : xs.length + ys.length ≤ 9223372036854775807 := by simp only [go_sem, *]; first | done | omega) (hbnd : (xs.length + ys.length) * Γ.bytes E ≤ 140737488355328 := by simp only [go_sem, *]; first | done | omega) (hp : aput o.dst (.lst true (Γ.size E) (xs ++ ys)) S' = S'' := by simp only [go_sem]; first | done | with_reducible rfl) : AS P ops o S S'' :=
  .inl ⟨hg, o_append3 hT ho hk hE hz hs0 hx ht hs hy hno hty hs2 hm hbnd hp⟩
/-- A step that appends what is handed over out of a list that stays. -/
theorem st_oP {A : List (List Nat)} {F : (Nat → Bool) → List AV} {k : Nat} (ds : List Nat) (h2 : Steps P ops A F (k + 1) l)
    (h1 : ∀ D, D k = false → allT D ((A[k]?).getD []) → allF D ds → AS P ops o (F D) (F (also D k)) := by
      intro D hk hd hf
      try simp only [go_sem, allT, Option.getD_some] at hd
      try simp only [go_sem, allF] at hf
      simp only [fillW, putIfs, putIf, fillU, putU, updAt, updV, hset, cond_true, also, Nat.reduceBEq, cond_false, Nat.reduceAdd, hd, hk, hf]
      exact as_pt hT)
    (hds : (ds.all fun j => ((A[j]?).getD []).contains k) = true := by decide +kernel) : Steps P ops A F k (o :: l) := steps_cons2 ds hds h1 h2
/-- A step with j done or not. -/
theorem st_oC {A : List (List Nat)} {F : (Nat → Bool) → List AV} {k : Nat} (j : Nat) (ds : List Nat) (h2 : Steps P ops A F (k + 1) l)
    (h1 : ∀ D, (D j = false ∨ D j = true) → D k = false → allT D ((A[k]?).getD []) → allF D ds → AS P ops o (F D) (F (also D k)) := by
      rintro D (hj | hj) hk hd hf
      all_goals (
        try simp only [go_sem, allT, Option.getD_some, hj] at hd
        try simp only [go_sem, allF] at hf
        simp only [fillW, putIfs, putIf, fillU, putU, updAt, updV, hset, cond_true, also, Nat.reduceBEq, cond_false, Nat.reduceAdd, hd, hk, hf, hj]
        first | exact as_k | exact as_t | fail))
    (hds : (ds.all fun j => ((A[j]?).getD []).contains k) = true := by decide +kernel) : Steps P ops A F k (o :: l) := steps_cons2 ds hds (fun D => h1 D (Bool.eq_false_or_eq_true (D j)).symm) h2
end
theorem dhitA_cond {r : Nat} {p : List Nat} {b : Bool} {x y : AV} : dhitA r p (bif b then x else y) = bif b then dhitA r p x else dhitA r p y := by cases b <;> rfl
attribute [go_sem] apart dhitA dhitAs dhitA_cond
end Go.Bv
