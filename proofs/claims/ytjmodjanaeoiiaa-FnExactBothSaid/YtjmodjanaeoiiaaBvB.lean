/- Paths into by-value values, and what a store at the end of a path does. Generic: no program. -/
import Derived.Test.YtjmodjanaeoiiaaBvA
namespace Go.Bv
open Go Go.RowKit
set_option linter.unusedSimpArgs false
set_option linter.unusedVariables false

def agetN : AV → List Nat → Option AV
  | x, [] => some x
  | .lst o _ xs, i :: p => if o = false then none else match xs[i]? with | some y => agetN y p | none => none
  | .agg xs, i :: p => match xs[i]? with | some y => agetN y p | none => none
  | _, _ :: _ => none
def asetN : AV → List Nat → AV → AV
  | _, [], y => y
  | .lst o s xs, i :: p, y => match xs[i]? with | some x => .lst o s (xs.set i (asetN x p y)) | none => .lst o s xs
  | .agg xs, i :: p, y => match xs[i]? with | some x => .agg (xs.set i (asetN x p y)) | none => .agg xs
  | x, _ :: _, _ => x
def cgetN : CV → Option Addr → List Nat → Option (CV × Option Addr)
  | x, l, [] => some (x, l)
  | .lst o s A _ xs, _, i :: p => if o = false then none else match xs[i]? with | some y => cgetN y (A.map (·.add (i * s))) p | none => none
  | .agg xs, l, i :: p => match xs[i]? with | some y => cgetN y (l.map (·.add (flats (xs.take i)).length)) p | none => none
  | _, _, _ :: _ => none
def csetN : CV → List Nat → CV → CV
  | _, [], y => y
  | .lst o s A c xs, i :: p, y => match xs[i]? with | some x => .lst o s A c (xs.set i (csetN x p y)) | none => .lst o s A c xs
  | .agg xs, i :: p, y => match xs[i]? with | some x => .agg (xs.set i (csetN x p y)) | none => .agg xs
  | x, _ :: _, _ => x

theorem er_get : ∀ (p : List Nat) (x : CV) (l : Option Addr) (y : CV) (l' : Option Addr), cgetN x l p = some (y, l') → agetN (er x) p = some (er y)
  | [], x, l, y, l', h => by simp only [cgetN, Option.some.injEq, Prod.mk.injEq] at h; simp [agetN, h.1]
  | i :: p, x, l, y, l', h => by
    cases x <;> simp only [cgetN] at h <;> try (cases h; done)
    · rename_i o s A c xs
      split at h
      · cases h
      · rename_i ho
        split at h
        · rename_i z hz
          simp only [er, agetN, if_neg ho, ers_eq, List.getElem?_map, hz, Option.map_some]
          exact er_get p z _ y l' h
        · cases h
    · rename_i xs
      split at h
      · rename_i z hz
        simp only [er, agetN, ers_eq, List.getElem?_map, hz, Option.map_some]
        exact er_get p z _ y l' h
      · cases h
theorem er_get' : ∀ (p : List Nat) (x : CV) (l : Option Addr) (y : AV), agetN (er x) p = some y → ∃ z l', cgetN x l p = some (z, l') ∧ er z = y
  | [], x, l, y, h => by simp only [agetN, Option.some.injEq] at h; exact ⟨x, l, rfl, h⟩
  | i :: p, x, l, y, h => by
    cases x <;> simp only [er, agetN] at h <;> try (cases h; done)
    · rename_i o s A c xs
      split at h
      · cases h
      · rename_i ho
        simp only [ers_eq, List.getElem?_map] at h
        cases hz : xs[i]? with
        | none => simp [hz] at h
        | some z => simp only [hz, Option.map_some] at h; simp only [cgetN, if_neg ho, hz]; exact er_get' p z _ y h
    · rename_i xs
      simp only [ers_eq, List.getElem?_map] at h
      cases hz : xs[i]? with
      | none => simp [hz] at h
      | some z => simp only [hz, Option.map_some] at h; simp only [cgetN, hz]; exact er_get' p z _ y h
theorem er_set : ∀ (p : List Nat) (x : CV) (y : CV), er (csetN x p y) = asetN (er x) p (er y)
  | [], x, y => by simp [csetN, asetN]
  | i :: p, x, y => by
    cases x <;> simp only [csetN, er, asetN]
    · rename_i o s A c xs
      simp only [ers_eq, List.getElem?_map]
      cases hz : xs[i]? with
      | none => simp [er, ers_eq]
      | some z => simp [er, ers_eq, List.map_set, er_set p z y]
    · rename_i xs
      simp only [ers_eq, List.getElem?_map]
      cases hz : xs[i]? with
      | none => simp [er, ers_eq]
      | some z => simp [er, ers_eq, List.map_set, er_set p z y]

/-! ### places -/
theorem add_eq {a : Addr} (h : a.spot = none) (n : Nat) : a.add n = ⟨a.block, a.off + n, none⟩ := by
  unfold Addr.add
  split
  · cases a; simp_all
  · rfl
theorem cellsAt_iff {w : World} {a : Addr} {vs : List Value} (h : a.spot = none) : CellsAt w a vs ↔ ∀ j v, vs[j]? = some v → w.cell? ⟨a.block, a.off + j, none⟩ = some v := by
  simp only [CellsAt, add_eq h]
theorem cellsAt_append {w : World} {a : Addr} {xs ys : List Value} (h : a.spot = none) : CellsAt w a (xs ++ ys) ↔ CellsAt w a xs ∧ CellsAt w (a.add xs.length) ys := by
  have h' : (a.add xs.length).spot = none := by rw [add_eq h]
  rw [cellsAt_iff h, cellsAt_iff h, cellsAt_iff h', add_eq h]
  constructor
  · intro H
    refine ⟨fun j v hj => H j v ?_, fun j v hj => ?_⟩
    · rw [List.getElem?_append_left (List.getElem?_eq_some_iff.1 hj).1]; exact hj
    · have := H (xs.length + j) v (by rw [List.getElem?_append_right (by omega)]; simpa using hj)
      simpa [Nat.add_assoc] using this
  · rintro ⟨H1, H2⟩ j v hj
    rcases Nat.lt_or_ge j xs.length with hlt | hge
    · exact H1 j v (by rwa [List.getElem?_append_left hlt] at hj)
    · rw [List.getElem?_append_right hge] at hj
      have := H2 (j - xs.length) v hj
      simp only [] at this
      rwa [show a.off + xs.length + (j - xs.length) = a.off + j by omega] at this
theorem add_add {a : Addr} (h : a.spot = none) (m n : Nat) : (a.add m).add n = a.add (m + n) := by
  rw [add_eq h, add_eq h, add_eq (by rfl)]; simp [Nat.add_assoc]
theorem add_block (a : Addr) (n : Nat) : (a.add n).block = a.block := by unfold Addr.add; split <;> rfl
theorem add_spot {a : Addr} (h : a.spot = none) (n : Nat) : (a.add n).spot = none := by rw [add_eq h]

theorem flats_len_of {s : Nat} : ∀ {xs : List CV}, (∀ x ∈ xs, (flat x).length = s) → (flats xs).length = xs.length * s
  | [], _ => by simp [flats]
  | x :: xs, h => by
    simp only [flats, List.length_append, List.length_cons]
    rw [h x (by simp), flats_len_of (xs := xs) fun y hy => h y (by simp [hy]), Nat.add_mul]; omega

/-- What a world is behind a store of n cells at ad. -/
structure Stored (w w' : World) (ad : Addr) (n : Nat) : Prop where
  other : ∀ b, b ≠ ad.block → w'.heap[b]? = w.heap[b]?
  hit : ∀ cur E, w.heap[ad.block]? = some (.cells cur E (0, 0)) → ∃ cur', w'.heap[ad.block]? = some (.cells cur' E (0, 0)) ∧ cur'.size = cur.size
  cell : ∀ k, (k < ad.off ∨ ad.off + n ≤ k) → w'.cell? ⟨ad.block, k, none⟩ = w.cell? ⟨ad.block, k, none⟩

theorem Stored.cellsAt {w w' : World} {ad : Addr} {n : Nat} (H : Stored w w' ad n) {a : Addr} {vs : List Value} (hs : a.spot = none) (h : CellsAt w a vs)
    (hd : a.block = ad.block → a.off + vs.length ≤ ad.off ∨ ad.off + n ≤ a.off) : CellsAt w' a vs := by
  by_cases hb : a.block = ad.block
  · rw [cellsAt_iff hs] at h ⊢
    intro j v hj
    have hlt := (List.getElem?_eq_some_iff.1 hj).1
    rw [hb, H.cell _ (by rcases hd hb with h | h <;> omega), ← hb]
    exact h j v hj
  · exact h.congr (H.other _ hb)

theorem fp_set : ∀ (p : List Nat) (x : CV) (l : Option Addr) (y : CV) (l' : Option Addr), cgetN x l p = some (y, l') → ∃ L R, fp x = L ++ fp y ++ R ∧ ∀ z, fp (csetN x p z) = L ++ fp z ++ R
  | [], x, l, y, l', h => by
    simp only [cgetN, Option.some.injEq, Prod.mk.injEq] at h
    exact ⟨[], [], by simp [h.1], fun z => by simp [csetN]⟩
  | i :: p, x, l, y, l', h => by
    cases x <;> simp only [cgetN] at h <;> try (cases h; done)
    · rename_i o s A c xs
      split at h
      · cases h
      · split at h
        · rename_i z hz
          obtain ⟨L, R, h1, h2⟩ := fp_set p z _ y l' h
          refine ⟨(if o = false ∨ c = 0 then [] else (A.map (·.block)).toList) ++ fps (xs.take i) ++ L, R ++ fps (xs.drop (i + 1)), ?_, fun u => ?_⟩
          · conv => lhs; rw [cut_at hz]
            simp [fp, fps, fps_append, h1]
          · simp only [csetN, hz]
            rw [set_at _ hz]
            simp [fp, fps, fps_append, h2]
        · cases h
    · rename_i xs
      split at h
      · rename_i z hz
        obtain ⟨L, R, h1, h2⟩ := fp_set p z _ y l' h
        refine ⟨fps (xs.take i) ++ L, R ++ fps (xs.drop (i + 1)), ?_, fun u => ?_⟩
        · conv => lhs; rw [cut_at hz]
          simp [fp, fps, fps_append, h1]
        · simp only [csetN, hz]
          rw [set_at _ hz]
          simp [fp, fps, fps_append, h2]
      · cases h
end Go.Bv
