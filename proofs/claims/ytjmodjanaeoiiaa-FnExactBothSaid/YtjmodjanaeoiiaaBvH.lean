/- Reading an operand; taking what a read value leans on. Generic: no program. -/
import Derived.Test.YtjmodjanaeoiiaaBvG
namespace Go.Bv
open Go Go.RowKit
set_option linter.unusedSimpArgs false
set_option linter.unusedVariables false

mutual
def cview (r : Nat) (p : List Nat) : CV → CV
  | .lst true _ A c xs => .ref r p 0 xs.length (.slice A xs.length c)
  | .agg xs => .agg (cviews r p 0 xs)
  | x => x
def cviews (r : Nat) (p : List Nat) (i : Nat) : List CV → List CV
  | [] => []
  | x :: xs => cview r (p ++ [i]) x :: cviews r p (i + 1) xs
end
mutual
def aview (r : Nat) (p : List Nat) : AV → AV
  | .lst true _ xs => .ref r p 0 xs.length
  | .agg xs => .agg (aviews r p 0 xs)
  | x => x
def aviews (r : Nat) (p : List Nat) (i : Nat) : List AV → List AV
  | [] => []
  | x :: xs => aview r (p ++ [i]) x :: aviews r p (i + 1) xs
end
mutual
theorem er_view (r : Nat) : ∀ (x : CV) (p : List Nat), er (cview r p x) = aview r p (er x)
  | .lst o _ _ _ xs, p => by cases o <;> simp [er, cview, aview, ers_eq]
  | .agg xs, p => by simp only [er, cview, aview, er_views r xs p 0]
  | .undef _, _ | .bool _, _ | .int _ _, _ | .str _, _ | .fn _ _, _ | .ip _ _, _ | .at _ _ _, _ | .ref _ _ _ _ _, _ | .box _ _ _, _ | .tup _, _ => by simp [er, cview, aview]
theorem er_views (r : Nat) : ∀ (xs : List CV) (p : List Nat) (i : Nat), ers (cviews r p i xs) = aviews r p i (ers xs)
  | [], _, _ => by simp [ers, cviews, aviews]
  | x :: xs, p, i => by simp only [ers, cviews, aviews, er_view r x, er_views r xs]
end
mutual
theorem flat_view (r : Nat) : ∀ (x : CV) (p : List Nat), flat (cview r p x) = flat x
  | .lst o _ _ _ xs, p => by cases o <;> simp [flat, cview]
  | .agg xs, p => by simp only [flat, cview, flats_view r xs p 0]
  | .undef _, _ | .bool _, _ | .int _ _, _ | .str _, _ | .fn _ _, _ | .ip _ _, _ | .at _ _ _, _ | .ref _ _ _ _ _, _ | .box _ _ _, _ | .tup _, _ => by simp [flat, cview]
theorem flats_view (r : Nat) : ∀ (xs : List CV) (p : List Nat) (i : Nat), flats (cviews r p i xs) = flats xs
  | [], _, _ => by simp [cviews]
  | x :: xs, p, i => by simp only [flats, cviews, flat_view r x, flats_view r xs]
end
theorem val_view (r : Nat) (p : List Nat) (x : CV) (h : ∀ xs, x ≠ .tup xs) : val (cview r p x) = val x := by
  cases x <;> try (first | rfl | exact absurd rfl (h _))
  · rename_i o s A c xs; cases o <;> simp [cview, val, val1, flat]
  · simp [cview, val, val1, flats_view]
mutual
theorem view_noOwn (r : Nat) : ∀ (x : CV) (p : List Nat), Pl x → NoOwn (cview r p x)
  | .lst o _ _ _ xs, p, _ => by cases o <;> simp [cview, NoOwn]
  | .agg xs, p, h => by simp only [Pl] at h; simp only [cview, NoOwn]; exact views_noOwn r xs p 0 h
  | .undef _, _, _ | .bool _, _, _ | .int _ _, _, _ | .str _, _, _ | .fn _ _, _, _ | .ip _ _, _, _ => by simp [cview, NoOwn]
  | .at _ _ _, _, h | .ref _ _ _ _ _, _, h | .box _ _ _, _, h | .tup _, _, h => by simp [Pl] at h
theorem views_noOwn (r : Nat) : ∀ (xs : List CV) (p : List Nat) (i : Nat), PlL xs → NoOwnL (cviews r p i xs)
  | [], _, _, _ => by simp [cviews, NoOwnL]
  | x :: xs, p, i, h => by simp only [PlL] at h; simp only [cviews, NoOwnL]; exact ⟨view_noOwn r x _ h.1, views_noOwn r xs p _ h.2⟩
end
mutual
theorem view_wf (r : Nat) : ∀ (x : CV) (p : List Nat), Pl x → Wf (cview r p x)
  | .lst o _ _ _ xs, p, h => by cases o <;> simp only [cview, Wf]; simpa only [Pl] using h
  | .agg xs, p, h => by simp only [Pl] at h; simp only [cview, Wf]; exact views_wf r xs p 0 h
  | .undef v, _, h | .bool v, _, h | .int _ _, _, h | .str _, _, h | .fn _ _, _, h | .ip _ _, _, h => by simp only [cview]; exact Pl.wf _ h
  | .at _ _ _, _, h | .ref _ _ _ _ _, _, h | .box _ _ _, _, h | .tup _, _, h => by simp [Pl] at h
theorem views_wf (r : Nat) : ∀ (xs : List CV) (p : List Nat) (i : Nat), PlL xs → WfL (cviews r p i xs)
  | [], _, _, _ => by simp [cviews, WfL]
  | x :: xs, p, i, h => by simp only [PlL] at h; simp only [cviews, WfL]; exact ⟨view_wf r x _ h.1, views_wf r xs p _ h.2⟩
end
mutual
theorem view_ok {w : World} {Z : Nat → Prop} (r : Nat) : ∀ (x : CV) (p : List Nat), Ok w Z x → Ok w Z (cview r p x)
  | .lst o _ _ _ xs, p, h => by cases o <;> simp only [cview] <;> first | exact h | simp [Ok]
  | .agg xs, p, h => by simp only [Ok] at h; simp only [cview, Ok]; exact views_ok r xs p 0 h
  | .undef _, _, h | .bool _, _, h | .int _ _, _, h | .str _, _, h | .fn _ _, _, h | .ip _ _, _, h | .at _ _ _, _, h | .ref _ _ _ _ _, _, h | .box _ _ _, _, h | .tup _, _, h => by simp only [cview]; exact h
theorem views_ok {w : World} {Z : Nat → Prop} (r : Nat) : ∀ (xs : List CV) (p : List Nat) (i : Nat), OkL w Z xs → OkL w Z (cviews r p i xs)
  | [], _, _, _ => by simp [cviews, OkL]
  | x :: xs, p, i, h => by simp only [OkL] at h; simp only [cviews, OkL]; exact ⟨view_ok r x _ h.1, views_ok r xs p _ h.2⟩
end
theorem get_append : ∀ (p q : List Nat) (x : CV) (l : Option Addr), cgetN x l (p ++ q) = (cgetN x l p).bind fun y => cgetN y.1 y.2 q
  | [], q, x, l => by simp [cgetN]
  | i :: p, q, x, l => by
    cases x <;> simp only [List.cons_append, cgetN, Option.bind_none] <;> (try rfl)
    · split
      · rfl
      · split
        · exact get_append p q _ _
        · rfl
    · split
      · exact get_append p q _ _
      · rfl
mutual
theorem view_refOk {Sc : List CV} {w : World} {Z : Nat → Prop} {r : Nat} {x0 : CV} (hx : Sc[r]? = some x0) (hp : Pl (rootC x0).1) : ∀ (y : CV) (p : List Nat) (l : Option Addr),
    cgetN (rootC x0).1 (rootC x0).2 p = some (y, l) → Pl y → Ok w Z y → RefOk Sc (cview r p y)
  | .lst o s A c xs, p, l, hg, _, hk => by
    cases o
    · simp [cview, RefOk]
    · simp only [cview, RefOk]
      simp only [Ok] at hk
      refine ⟨x0, s, A, c, xs, l, hx, hp, hg, by simp, A, c, rfl, Nat.zero_le _, by simp, hk.1.1, fun _ => rfl, fun _ => ?_⟩
      cases A <;> simp [Addr.add]
  | .agg xs, p, l, hg, hpl, hk => by
    simp only [cview, RefOk]
    simp only [Pl] at hpl
    simp only [Ok] at hk
    refine views_refOk hx hp xs p 0 hpl hk fun j y hj => ?_
    rw [get_append, hg]
    simp [cgetN, hj]
  | .undef _, _, _, _, _, _ | .bool _, _, _, _, _, _ | .int _ _, _, _, _, _, _ | .str _, _, _, _, _, _ | .ip _ _, _, _, _, _, _ => by simp [cview, RefOk]
  | .fn f xs, _, _, _, h, _ => by simp only [cview]; exact Pl.refOk _ h
  | .at _ _ _, _, _, _, h, _ | .ref _ _ _ _ _, _, _, _, h, _ | .box _ _ _, _, _, _, h, _ | .tup _, _, _, _, h, _ => by simp [Pl] at h
theorem views_refOk {Sc : List CV} {w : World} {Z : Nat → Prop} {r : Nat} {x0 : CV} (hx : Sc[r]? = some x0) (hp : Pl (rootC x0).1) : ∀ (ys : List CV) (p : List Nat) (i : Nat),
    PlL ys → OkL w Z ys → (∀ (j : Nat) y, ys[j]? = some y → ∃ l, cgetN (rootC x0).1 (rootC x0).2 (p ++ [i + j]) = some (y, l)) → RefOkL Sc (cviews r p i ys)
  | [], _, _, _, _, _ => by simp [cviews, RefOkL]
  | y :: ys, p, i, h, hk, hg => by
    simp only [PlL] at h
    simp only [OkL] at hk
    simp only [cviews, RefOkL]
    obtain ⟨l, hl⟩ := hg 0 y rfl
    refine ⟨view_refOk hx hp y _ l (by simpa using hl) h.1 hk.1, views_refOk hx hp ys p (i + 1) h.2 hk.2 fun j z hj => ?_⟩
    obtain ⟨l, hl⟩ := hg (j + 1) z (by simpa using hj)
    exact ⟨l, by rw [show i + 1 + j = i + (j + 1) by omega]; exact hl⟩
end
mutual
theorem view_same (r : Nat) : ∀ (x : CV) (p : List Nat), NoOwn x → cview r p x = x
  | .lst o _ _ _ xs, p, h => by simp only [NoOwn] at h; subst h; simp [cview]
  | .agg xs, p, h => by simp only [NoOwn] at h; simp only [cview, views_same r xs p 0 h]
  | .undef _, _, h | .bool _, _, h | .int _ _, _, h | .str _, _, h | .fn _ _, _, h | .ip _ _, _, h | .at _ _ _, _, h | .ref _ _ _ _ _, _, h | .box _ _ _, _, h | .tup _, _, h => by simp only [cview]
theorem views_same (r : Nat) : ∀ (xs : List CV) (p : List Nat) (i : Nat), NoOwnL xs → cviews r p i xs = xs
  | [], _, _, _ => by simp [cviews]
  | x :: xs, p, i, h => by simp only [NoOwnL] at h; simp only [cviews, view_same r x _ h.1, views_same r xs p _ h.2]
end

theorem view_not_tup {t : Nat} {p : List Nat} : ∀ {x : CV}, (∀ xs, x ≠ .tup xs) → ∀ xs, cview t p x ≠ .tup xs
  | .lst o _ _ _ _, _, xs => by cases o <;> simp [cview]
  | .agg _, _, xs => by simp [cview]
  | .tup ys, h, _ => absurd rfl (h ys)
  | .undef _, _, _ | .bool _, _, _ | .int _ _, _, _ | .str _, _, _ | .fn _ _, _, _ | .ip _ _, _, _ | .at _ _ _, _, _ | .ref _ _ _ _ _, _, _ | .box _ _ _, _, _ => by simp [cview]

def cconst : Value → Option CV
  | .bool b => some (.bool b)
  | .int k n => some (.int k n)
  | .string s => some (.str s)
  | .slice none 0 0 => some (.lst true 0 none 0 [])
  | _ => none
def aconst : Value → Option AV
  | .bool b => some (.bool b)
  | .int k n => some (.int k n)
  | .string s => some (.str s)
  | .slice none 0 0 => some (.lst true 0 [])
  | _ => none
theorem er_const (v : Value) : (cconst v).map er = aconst v := by
  unfold cconst aconst
  split <;> simp_all [er, ers]
theorem const_ok {v : Value} {c : CV} (h : cconst v = some c) : val c = v ∧ Pl c ∧ fp c = [] ∧ ∀ w Z, Ok w Z c := by
  unfold cconst at h
  split at h
  all_goals first
    | (cases h; done)
    | (simp only [Option.some.injEq] at h; subst h; simp [val, val1, flat, Pl, PlL, fp, fps, Ok, OkL, HdrOk, flats])

/-- An operand's value, as read. -/
def ard (S : List AV) : Operand → Option AV
  | .tmp t => match S[t]? with | some (.box _) => some (.at t []) | some (.tup _) => none | some x => some (aview t [] x) | none => none
  | .const v => aconst v
  | .func f => some (.fn f [])
  | .global _ => none

section
variable {K : Nat → Prop} {w0 : World} {Z : Nat → Prop} {Sc L : List CV} {a : Act} {w : World}

theorem Good.eval_tmp (h : Good K w0 Z Sc L a w) {t : Nat} {x : CV} (hx : Sc[t]? = some x) : a.eval (.tmp t) = val x := by
  have hl := (List.getElem?_eq_some_iff.1 hx).1
  have := h.tmps t (by rw [h.size]; exact hl)
  rw [hx] at this
  simp [Act.eval, Array.getD_eq_getD_getElem?, this]

/-- What is told of a value that was read off the frame. -/
structure Rd (w : World) (Z : Nat → Prop) (Sc : List CV) (c : CV) : Prop where
  refOk : RefOk Sc c
  wf : Wf c
  ok : Ok w Z c
  fp : fp c = []
  sorted : Pl c ∨ NoOwn c

theorem Good.rd (h : Good K w0 Z Sc L a w) {x : Operand} {v : AV} (hv : ard (ers Sc) x = some v) : ∃ c, er c = v ∧ val c = a.eval x ∧ Rd w Z Sc c ∧ (∀ xs, c ≠ .tup xs) := by
  cases x with
  | tmp t =>
    simp only [ard, ers_eq, List.getElem?_map] at hv
    cases hx : Sc[t]? with
    | none => simp [hx] at hv
    | some x =>
      simp only [hx, Option.map_some] at hv
      have hmem := List.mem_of_getElem? hx
      have hok : Ok w Z x := ((okL_cut hx).1 ((okL_append _ _).1 h.ok).1).2.1
      have hev := h.eval_tmp hx
      have hplain : (∀ b ty z, x ≠ .box b ty z) → (∀ xs, x ≠ .tup xs) → some (aview t [] (er x)) = some v → ∃ c, er c = v ∧ val c = a.eval (.tmp t) ∧ Rd w Z Sc c ∧ (∀ xs, c ≠ .tup xs) := by
        intro hnb hnt e
        refine ⟨cview t [] x, by rw [er_view]; simpa using e, by rw [val_view _ _ _ hnt, hev], ?_, ?_⟩
        · rcases h.sorted x hmem with hn | hn
          · have hpl : Pl x := by cases x <;> first | exact hn | exact absurd rfl (hnb _ _ _) | exact absurd rfl (hnt _)
            have hroot : rootC x = (x, none) := by cases x <;> first | rfl | exact absurd rfl (hnb _ _ _)
            have hno := view_noOwn t x [] hpl
            have hk := view_ok (w := w) (Z := Z) t x [] hok
            exact ⟨view_refOk hx (by rw [hroot]; exact hpl) x [] none (by rw [hroot]; rfl) hpl hok, view_wf t x [] hpl, hk, hno.fp _ hk, .inr hno⟩
          · rw [view_same t x [] hn]
            exact ⟨h.refs x hmem, h.wf x hmem, hok, hn.fp x hok, .inr hn⟩
        · exact view_not_tup hnt
      cases x <;> simp only [er] at hv hplain <;> try exact hplain (by simp) (by simp) hv
      · cases hv
      · rename_i b ty z
        simp only [Option.some.injEq] at hv
        refine ⟨.at t [] ⟨b, 0, none⟩, by simpa [er] using hv, by rw [hev]; simp [val, val1, flat], ⟨?_, by simp [Wf], by simp [Ok], by simp [Bv.fp], .inr (by simp [NoOwn])⟩, by simp⟩
        simp only [RefOk]
        exact ⟨_, z, hx, by simpa only [rootC, Wf] using h.wf _ hmem, by simp [rootC, cgetN]⟩
  | const v' =>
    simp only [ard, ← er_const] at hv
    cases hc : cconst v' with
    | none => simp [hc] at hv
    | some c =>
      simp only [hc, Option.map_some, Option.some.injEq] at hv
      obtain ⟨h1, h2, h3, h4⟩ := const_ok hc
      exact ⟨c, hv, h1, ⟨Pl.refOk _ h2, Pl.wf _ h2, h4 _ _, h3, .inl h2⟩, h2.not_tup⟩
  | func f =>
    simp only [ard, Option.some.injEq] at hv
    refine ⟨.fn f [], by simp [er, ers, hv], by simp [val, val1, flat, flats, Act.eval], ⟨by simp [RefOk, RefOkL], by simp [Wf, WfL], by simp [Ok, OkL, fps], by simp [Bv.fp, fps], .inl (by simp [Pl, PlL])⟩, by simp⟩
  | global g => simp [ard] at hv
end
end Go.Bv
