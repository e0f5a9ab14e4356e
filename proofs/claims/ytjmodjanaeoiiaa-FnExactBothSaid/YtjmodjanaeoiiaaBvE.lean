/- References: what they lean on, and how they keep when a place is set. Generic: no program. -/
import Derived.Test.YtjmodjanaeoiiaaBvD
namespace Go.Bv
open Go Go.RowKit
set_option linter.unusedSimpArgs false
set_option linter.unusedVariables false

def RefHdr (s : Nat) (A : Option Addr) (c lo n : Nat) (v : Value) : Prop :=
  ∃ A' c', v = .slice A' n c' ∧ lo ≤ c ∧ c' = c - lo ∧ n ≤ c' ∧ (lo = 0 → A' = A) ∧ (lo < c → A' = A.map (·.add (lo * s)))
mutual
def RefOk (Sc : List CV) : CV → Prop
  | .at r p a => ∃ x y, Sc[r]? = some x ∧ Pl (rootC x).1 ∧ cgetN (rootC x).1 (rootC x).2 p = some (y, some a)
  | .ref r p lo n v => ∃ x s A c xs l, Sc[r]? = some x ∧ Pl (rootC x).1 ∧ cgetN (rootC x).1 (rootC x).2 p = some (.lst true s A c xs, l) ∧ lo + n ≤ xs.length ∧ RefHdr s A c lo n v
  | .agg xs => RefOkL Sc xs
  | .tup xs => RefOkL Sc xs
  | .fn _ xs => RefOkL Sc xs
  | _ => True
def RefOkL (Sc : List CV) : List CV → Prop
  | [] => True
  | x :: xs => RefOk Sc x ∧ RefOkL Sc xs
end
theorem refOkL_iff {Sc : List CV} (xs : List CV) : RefOkL Sc xs ↔ ∀ x ∈ xs, RefOk Sc x := by induction xs <;> simp [RefOkL, *]
mutual
/-- References stand only where they may. -/
def Wf : CV → Prop
  | .lst _ _ _ _ xs => PlL xs
  | .box _ _ x => Pl x
  | .ip _ x => Pl x
  | .agg xs => WfL xs
  | .tup xs => WfL xs
  | .fn _ xs => WfL xs
  | _ => True
def WfL : List CV → Prop
  | [] => True
  | x :: xs => Wf x ∧ WfL xs
end
theorem wfL_iff (xs : List CV) : WfL xs ↔ ∀ x ∈ xs, Wf x := by induction xs <;> simp [WfL, *]
mutual
theorem Pl.wf : ∀ x : CV, Pl x → Wf x
  | .lst _ _ _ _ xs, h => by simpa only [Pl, Wf] using h
  | .agg xs, h => by simp only [Pl, Wf] at h ⊢; exact PlL.wf xs h
  | .fn _ xs, h => by simp only [Pl, Wf] at h ⊢; exact PlL.wf xs h
  | .ip _ x, h => by simpa only [Pl, Wf] using h
  | .undef _, _ | .bool _, _ | .int _ _, _ | .str _, _ => by simp [Wf]
  | .at _ _ _, h | .ref _ _ _ _ _, h | .box _ _ _, h | .tup _, h => by simp [Pl] at h
theorem PlL.wf : ∀ xs : List CV, PlL xs → WfL xs
  | [], _ => by simp [WfL]
  | x :: xs, h => by simp only [PlL, WfL] at h ⊢; exact ⟨Pl.wf x h.1, PlL.wf xs h.2⟩
end
mutual
theorem Pl.refOk {Sc : List CV} : ∀ x : CV, Pl x → RefOk Sc x
  | .lst _ _ _ _ xs, h => by simp [RefOk]
  | .agg xs, h => by simp only [Pl, RefOk] at h ⊢; exact PlL.refOk xs h
  | .fn _ xs, h => by simp only [Pl, RefOk] at h ⊢; exact PlL.refOk xs h
  | .ip _ x, h => by simp [RefOk]
  | .undef _, _ | .bool _, _ | .int _ _, _ | .str _, _ => by simp [RefOk]
  | .at _ _ _, h | .ref _ _ _ _ _, h | .box _ _ _, h | .tup _, h => by simp [Pl] at h
theorem PlL.refOk {Sc : List CV} : ∀ xs : List CV, PlL xs → RefOkL Sc xs
  | [], _ => by simp [RefOkL]
  | x :: xs, h => by simp only [PlL, RefOkL] at h ⊢; exact ⟨Pl.refOk x h.1, PlL.refOk xs h.2⟩
end

mutual
/-- Does it lean on what lies at, or below, the path? -/
def hit (r : Nat) (p : List Nat) : CV → Bool
  | .at r' q _ => r == r' && p.isPrefixOf q && p != q
  | .ref r' q _ _ _ => r == r' && p.isPrefixOf q
  | .agg xs => hits r p xs
  | .tup xs => hits r p xs
  | .fn _ xs => hits r p xs
  | _ => false
def hits (r : Nat) (p : List Nat) : List CV → Bool
  | [] => false
  | x :: xs => hit r p x || hits r p xs
end
mutual
def hitA (r : Nat) (p : List Nat) : AV → Bool
  | .at r' q => r == r' && p.isPrefixOf q && p != q
  | .ref r' q _ _ => r == r' && p.isPrefixOf q
  | .agg xs => hitAs r p xs
  | .tup xs => hitAs r p xs
  | .fn _ xs => hitAs r p xs
  | _ => false
def hitAs (r : Nat) (p : List Nat) : List AV → Bool
  | [] => false
  | x :: xs => hitA r p x || hitAs r p xs
end
mutual
theorem hit_er (r : Nat) (p : List Nat) : ∀ x : CV, hitA r p (er x) = hit r p x
  | .agg xs => by simp only [er, hitA, hit]; exact hits_er r p xs
  | .tup xs => by simp only [er, hitA, hit]; exact hits_er r p xs
  | .fn _ xs => by simp only [er, hitA, hit]; exact hits_er r p xs
  | .undef _ | .bool _ | .int _ _ | .str _ | .lst _ _ _ _ _ | .ip _ _ | .at _ _ _ | .ref _ _ _ _ _ | .box _ _ _ => by simp [er, hitA, hit]
theorem hits_er (r : Nat) (p : List Nat) : ∀ xs : List CV, hitAs r p (ers xs) = hits r p xs
  | [] => by simp [ers, hitAs, hits]
  | x :: xs => by simp only [ers, hitAs, hits, hit_er r p x, hits_er r p xs]
end
mutual
theorem Pl.hit (r : Nat) (p : List Nat) : ∀ x : CV, Pl x → hit r p x = false
  | .agg xs, h => by simp only [Pl, Bv.hit] at h ⊢; exact PlL.hit r p xs h
  | .fn _ xs, h => by simp only [Pl, Bv.hit] at h ⊢; exact PlL.hit r p xs h
  | .undef _, _ | .bool _, _ | .int _ _, _ | .str _, _ | .lst _ _ _ _ _, _ | .ip _ _, _ => by simp [Bv.hit]
  | .at _ _ _, h | .ref _ _ _ _ _, h | .box _ _ _, h | .tup _, h => by simp [Pl] at h
theorem PlL.hit (r : Nat) (p : List Nat) : ∀ xs : List CV, PlL xs → hits r p xs = false
  | [], _ => by simp [hits]
  | x :: xs, h => by simp only [PlL, hits] at h ⊢; simp [Pl.hit r p x h.1, PlL.hit r p xs h.2]
end
theorem root_hit {r : Nat} {p : List Nat} {x : CV} (h : Pl (rootC x).1) : hit r p x = false := by
  cases x <;> first | (simp [Bv.hit]; done) | exact Pl.hit r p _ h

mutual
theorem Pl.set : ∀ (p : List Nat) (x y : CV), Pl x → Pl y → Pl (csetN x p y)
  | [], x, y, _, hy => by simpa [csetN] using hy
  | i :: p, x, y, hx, hy => by
    cases x <;> simp only [csetN] <;> try exact hx
    · rename_i o s A c xs
      simp only [Pl] at hx
      cases hz : xs[i]? with
      | none => simpa only [Pl] using hx
      | some z => simp only [Pl]; rw [plL_iff] at hx ⊢; intro u hu; rcases List.mem_or_eq_of_mem_set hu with hu | rfl
                  · exact hx u hu
                  · exact Pl.set p z y (hx z (List.mem_of_getElem? hz)) hy
    · rename_i xs
      simp only [Pl] at hx
      cases hz : xs[i]? with
      | none => simpa only [Pl] using hx
      | some z => simp only [Pl]; rw [plL_iff] at hx ⊢; intro u hu; rcases List.mem_or_eq_of_mem_set hu with hu | rfl
                  · exact hx u hu
                  · exact Pl.set p z y (hx z (List.mem_of_getElem? hz)) hy
end
theorem Pl.get : ∀ (p : List Nat) (x : CV) (l : Option Addr) (y : CV) (l' : Option Addr), cgetN x l p = some (y, l') → Pl x → Pl y
  | [], x, l, y, l', h, hx => by simp only [cgetN, Option.some.injEq, Prod.mk.injEq] at h; exact h.1 ▸ hx
  | i :: p, x, l, y, l', h, hx => by
    cases x <;> simp only [cgetN] at h <;> try (cases h; done)
    · split at h
      · cases h
      · split at h
        · rename_i z hz; simp only [Pl] at hx; rw [plL_iff] at hx; exact Pl.get p z _ y l' h (hx z (List.mem_of_getElem? hz))
        · cases h
    · split at h
      · rename_i z hz; simp only [Pl] at hx; rw [plL_iff] at hx; exact Pl.get p z _ y l' h (hx z (List.mem_of_getElem? hz))
      · cases h

def cclr (r : Nat) (p : List Nat) (Sc : List CV) : List CV := Sc.map fun x => if hit r p x then .undef (val x) else x
def aclr (r : Nat) (p : List Nat) (S : List AV) : List AV := S.map fun x => if hitA r p x then .undef else x
theorem er_cclr (r : Nat) (p : List Nat) (Sc : List CV) : ers (cclr r p Sc) = aclr r p (ers Sc) := by
  simp only [cclr, aclr, ers_eq, List.map_map]
  apply List.map_congr_left
  intro x _
  simp only [Function.comp, hit_er]
  split <;> simp [er]
theorem val_undef (v : Value) : val (.undef v) = v := by simp [val, val1, flat]

/-- Set at a place; what leaned on what lay there is gone. -/
def csetc (Sc : List CV) (r : Nat) (p : List Nat) (y : CV) : List CV := cclr r p (cset Sc r p y)
def asetc (S : List AV) (r : Nat) (p : List Nat) (y : AV) : List AV := aclr r p (aset S r p y)
theorem er_csetc (Sc : List CV) (r : Nat) (p : List Nat) (y : CV) : ers (csetc Sc r p y) = asetc (ers Sc) r p (er y) := by simp [csetc, asetc, er_cclr, er_cset]

theorem rootC_csetR {x : CV} {p : List Nat} {y : CV} (hx : Pl (rootC x).1) (hy : Pl y) : rootC (csetR x p y) = (csetN (rootC x).1 p y, (rootC x).2) := by
  cases x <;> simp only [csetR, rootC] at hx ⊢ <;> try (simp [Pl] at hx; done)
  all_goals
    have h1 := Pl.set p _ y hx hy
    revert h1
    generalize csetN _ p y = z
    intro h1
    cases z <;> simp [rootC, Pl] at h1 ⊢

theorem cset_slot {Sc : List CV} {r : Nat} {p : List Nat} {y : CV} {x : CV} (hx : Sc[r]? = some x) (hp : Pl (rootC x).1) (hy : Pl y) (t : Nat) :
    (csetc Sc r p y)[t]? = if t = r then some (csetR x p y) else (Sc[t]?).map fun x => if hit r p x then .undef (val x) else x := by
  unfold csetc cclr cset
  simp only [hx, List.getElem?_map]
  by_cases e : t = r
  · subst e
    rw [List.getElem?_set_self (List.getElem?_eq_some_iff.1 hx).1, if_pos rfl]
    simp only [Option.map_some]
    rw [root_hit (by rw [rootC_csetR hp hy]; exact Pl.set p _ y hp hy)]
    simp
  · rw [List.getElem?_set_ne (Ne.symm e), if_neg e]

mutual
theorem RefOk.set {Sc : List CV} {r : Nat} {p : List Nat} {y : CV} {x0 : CV} {y0 : CV} {l0 : Option Addr} (hx : Sc[r]? = some x0) (hp : Pl (rootC x0).1) (hy : Pl y)
    (hg : cgetN (rootC x0).1 (rootC x0).2 p = some (y0, l0)) (hl : (flat y).length = (flat y0).length) : ∀ x : CV, hit r p x = false → RefOk Sc x → RefOk (csetc Sc r p y) x
  | .at r' q a, hh, h => by
    simp only [Bv.hit] at hh
    simp only [RefOk] at h ⊢
    obtain ⟨x1, y1, h1, h2, h3⟩ := h
    by_cases e : r' = r
    · subst e
      rw [hx] at h1; cases h1
      have hpq : p.isPrefixOf q = true → p = q := fun h' => by simp [h'] at hh; exact hh
      obtain ⟨z', g1, g2, g3⟩ := get_set p q _ _ y0 l0 y y1 _ hg hl h3 hpq
      refine ⟨csetR x0 p y, z', by rw [cset_slot hx hp hy, if_pos rfl], ?_, ?_⟩
      · rw [rootC_csetR hp hy]; exact Pl.set p _ y hp hy
      · rw [rootC_csetR hp hy]; exact g1
    · refine ⟨x1, y1, ?_, h2, h3⟩
      rw [cset_slot hx hp hy, if_neg e, h1]
      simp [root_hit h2]
  | .ref r' q lo n v, hh, h => by
    simp only [Bv.hit] at hh
    simp only [RefOk] at h ⊢
    obtain ⟨x1, s, A, c, xs, l, h1, h2, h3, h4, h5⟩ := h
    by_cases e : r' = r
    · subst e
      rw [hx] at h1; cases h1
      have hne : p.isPrefixOf q = false := by simpa using hh
      obtain ⟨z', g1, g2, g3⟩ := get_set p q _ _ y0 l0 y _ _ hg hl h3 (fun h' => by rw [hne] at h'; cases h')
      have hpq : p ≠ q := by
        intro e
        rw [← e, List.isPrefixOf_iff_prefix.2 (List.prefix_refl p)] at hne
        cases hne
      obtain ⟨ys, rfl, hlen⟩ := g3 hpq
      refine ⟨csetR x0 p y, s, A, c, ys, l, by rw [cset_slot hx hp hy, if_pos rfl], ?_, ?_, by omega, h5⟩
      · rw [rootC_csetR hp hy]; exact Pl.set p _ y hp hy
      · rw [rootC_csetR hp hy]; exact g1
    · refine ⟨x1, s, A, c, xs, l, ?_, h2, h3, h4, h5⟩
      rw [cset_slot hx hp hy, if_neg e, h1]
      simp [root_hit h2]
  | .agg xs, hh, h => by simp only [Bv.hit, RefOk] at hh h ⊢; exact RefOkL.set hx hp hy hg hl xs hh h
  | .tup xs, hh, h => by simp only [Bv.hit, RefOk] at hh h ⊢; exact RefOkL.set hx hp hy hg hl xs hh h
  | .fn _ xs, hh, h => by simp only [Bv.hit, RefOk] at hh h ⊢; exact RefOkL.set hx hp hy hg hl xs hh h
  | .undef _, _, _ | .bool _, _, _ | .int _ _, _, _ | .str _, _, _ | .lst _ _ _ _ _, _, _ | .ip _ _, _, _ | .box _ _ _, _, _ => by simp [RefOk]
theorem RefOkL.set {Sc : List CV} {r : Nat} {p : List Nat} {y : CV} {x0 : CV} {y0 : CV} {l0 : Option Addr} (hx : Sc[r]? = some x0) (hp : Pl (rootC x0).1) (hy : Pl y)
    (hg : cgetN (rootC x0).1 (rootC x0).2 p = some (y0, l0)) (hl : (flat y).length = (flat y0).length) : ∀ xs : List CV, hits r p xs = false → RefOkL Sc xs → RefOkL (csetc Sc r p y) xs
  | [], _, _ => by simp [RefOkL]
  | x :: xs, hh, h => by
    simp only [hits, Bool.or_eq_false_iff] at hh
    simp only [RefOkL] at h ⊢
    exact ⟨RefOk.set hx hp hy hg hl x hh.1 h.1, RefOkL.set hx hp hy hg hl xs hh.2 h.2⟩
end
end Go.Bv
