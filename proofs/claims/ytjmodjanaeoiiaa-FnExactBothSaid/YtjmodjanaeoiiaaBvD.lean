/- Frames of by-value slots: references into them, what keeps them. Generic: no program. -/
import Derived.Test.YtjmodjanaeoiiaaBvC
namespace Go.Bv
open Go Go.RowKit
set_option linter.unusedSimpArgs false
set_option linter.unusedVariables false

mutual
/-- No reference, pointer into a slot, box or tuple inside. -/
def Pl : CV → Prop
  | .lst _ _ _ _ xs => PlL xs
  | .agg xs => PlL xs
  | .fn _ xs => PlL xs
  | .ip _ x => Pl x
  | .at _ _ _ => False
  | .ref _ _ _ _ _ => False
  | .box _ _ _ => False
  | .tup _ => False
  | .undef v => v.oneCell' = true
  | _ => True
def PlL : List CV → Prop
  | [] => True
  | x :: xs => Pl x ∧ PlL xs
end
theorem plL_iff (xs : List CV) : PlL xs ↔ ∀ x ∈ xs, Pl x := by induction xs <;> simp [PlL, *]
mutual
def plA : AV → Bool
  | .lst _ _ xs => plAs xs
  | .agg xs => plAs xs
  | .fn _ xs => plAs xs
  | .ip x => plA x
  | .at _ _ => false
  | .ref _ _ _ _ => false
  | .box _ => false
  | .tup _ => false
  | .undef => false
  | _ => true
def plAs : List AV → Bool
  | [] => true
  | x :: xs => plA x && plAs xs
end
mutual
theorem pl_er : ∀ x : CV, plA (er x) = true → Pl x
  | .lst _ _ _ _ xs => by simp only [er, plA, Pl]; exact plL_er xs
  | .agg xs => by simp only [er, plA, Pl]; exact plL_er xs
  | .fn _ xs => by simp only [er, plA, Pl]; exact plL_er xs
  | .ip _ x => by simp only [er, plA, Pl]; exact pl_er x
  | .undef _ | .bool _ | .int _ _ | .str _ | .at _ _ _ | .ref _ _ _ _ _ | .box _ _ _ | .tup _ => by simp [er, plA, Pl]
theorem plL_er : ∀ xs : List CV, plAs (ers xs) = true → PlL xs
  | [] => by simp [ers, plAs, PlL]
  | x :: xs => by
    simp only [ers, plAs, PlL, Bool.and_eq_true]
    exact fun h => ⟨pl_er x h.1, plL_er xs h.2⟩
end
mutual
theorem Pl.one : ∀ x : CV, Pl x → ∀ v ∈ flat x, v.oneCell' = true
  | .agg xs, h => by simp only [Pl] at h; simp only [flat]; exact PlL.one xs h
  | .undef u, h => by simp only [Pl] at h; simp only [flat, List.mem_singleton]; rintro v rfl; exact h
  | .lst _ _ _ _ _, _ | .fn _ _, _ | .ip _ _, _ | .bool _, _ | .int _ _, _ | .str _, _ => by simp [flat, Value.oneCell']
  | .at _ _ _, h | .ref _ _ _ _ _, h | .box _ _ _, h | .tup _, h => by simp [Pl] at h
theorem PlL.one : ∀ xs : List CV, PlL xs → ∀ v ∈ flats xs, v.oneCell' = true
  | [], _ => by simp [flats]
  | x :: xs, h => by
    simp only [PlL] at h
    simp only [flats, List.mem_append]
    rintro v (hv | hv)
    · exact Pl.one x h.1 v hv
    · exact PlL.one xs h.2 v hv
end

def rootC : CV → CV × Option Addr
  | .box b _ x => (x, some ⟨b, 0, none⟩)
  | x => (x, none)
def rootA : AV → AV
  | .box x => x
  | x => x
theorem er_root (x : CV) : er (rootC x).1 = rootA (er x) := by cases x <;> simp [rootC, rootA, er]
def cget (Sc : List CV) (r : Nat) (p : List Nat) : Option (CV × Option Addr) := match Sc[r]? with | some x => cgetN (rootC x).1 (rootC x).2 p | none => none
def aget (S : List AV) (r : Nat) (p : List Nat) : Option AV := match S[r]? with | some x => agetN (rootA x) p | none => none
def csetR (x : CV) (p : List Nat) (y : CV) : CV := match x with | .box b ty z => .box b ty (csetN z p y) | x => csetN x p y
def asetR (x : AV) (p : List Nat) (y : AV) : AV := match x with | .box z => .box (asetN z p y) | x => asetN x p y
def cset (Sc : List CV) (r : Nat) (p : List Nat) (y : CV) : List CV := match Sc[r]? with | some x => Sc.set r (csetR x p y) | none => Sc
def aset (S : List AV) (r : Nat) (p : List Nat) (y : AV) : List AV := match S[r]? with | some x => S.set r (asetR x p y) | none => S

theorem er_cget {Sc : List CV} {r : Nat} {p : List Nat} {y : CV} {l : Option Addr} (h : cget Sc r p = some (y, l)) : aget (ers Sc) r p = some (er y) := by
  unfold cget at h
  unfold aget
  rw [ers_eq, List.getElem?_map]
  cases hx : Sc[r]? with
  | none => simp [hx] at h
  | some x => simp only [hx] at h; simp only [Option.map_some, ← er_root]; exact er_get p _ _ y l h
theorem er_cget' {Sc : List CV} {r : Nat} {p : List Nat} {y : AV} (h : aget (ers Sc) r p = some y) : ∃ z l, cget Sc r p = some (z, l) ∧ er z = y := by
  unfold aget at h
  unfold cget
  rw [ers_eq, List.getElem?_map] at h
  cases hx : Sc[r]? with
  | none => simp [hx] at h
  | some x => simp only [hx, Option.map_some, ← er_root] at h; simp only; exact er_get' p _ _ y h
theorem er_csetR (x : CV) (p : List Nat) (y : CV) : er (csetR x p y) = asetR (er x) p (er y) := by
  cases x <;> simp [csetR, asetR, er_set, er]
theorem er_cset (Sc : List CV) (r : Nat) (p : List Nat) (y : CV) : ers (cset Sc r p y) = aset (ers Sc) r p (er y) := by
  unfold cset aset
  rw [ers_eq, ers_eq, List.getElem?_map]
  cases hx : Sc[r]? with
  | none => simp
  | some x => simp [List.map_set, er_csetR]

/-! ### a set and another path -/
theorem isPrefixOf_cons (i j : Nat) (p q : List Nat) : (i :: p).isPrefixOf (j :: q) = (i == j && p.isPrefixOf q) := by simp [List.isPrefixOf]

/-- The same head: a list behind the same header, as long. -/
def SameHdr : CV → CV → Prop
  | .lst o s A c xs, z => ∃ ys, z = .lst o s A c ys ∧ ys.length = xs.length
  | _, _ => True

theorem len_set : ∀ (p : List Nat) (x : CV) (l : Option Addr) (y : CV) (l' : Option Addr) (y' : CV), cgetN x l p = some (y, l') → (flat y').length = (flat y).length → (flat (csetN x p y')).length = (flat x).length
  | [], x, l, y, l', y', h, hl => by simp only [cgetN, Option.some.injEq, Prod.mk.injEq] at h; simp [csetN, hl, h.1]
  | i :: p, x, l, y, l', y', h, hl => by
    cases x <;> simp only [cgetN] at h <;> try (cases h; done)
    · rename_i o s A c xs
      split at h
      · cases h
      · split at h
        · rename_i z hz; simp [csetN, hz, flat]
        · cases h
    · rename_i xs
      split at h
      · rename_i z hz
        simp only [csetN, hz, flat]
        rw [flats_set hz, flats_cut hz]
        simp [len_set p z _ y l' y' h hl]
      · cases h

theorem get_set : ∀ (p q : List Nat) (x : CV) (l : Option Addr) (y : CV) (l' : Option Addr) (y' z : CV) (lz : Option Addr), cgetN x l p = some (y, l') → (flat y').length = (flat y).length →
    cgetN x l q = some (z, lz) → (p.isPrefixOf q = true → p = q) → ∃ z', cgetN (csetN x p y') l q = some (z', lz) ∧ (p = q → z' = y') ∧ (p ≠ q → SameHdr z z')
  | [], q, x, l, y, l', y', z, lz, h, hl, hq, hpq => by
    have : q = [] := (hpq (by simp [List.isPrefixOf])).symm
    subst this
    simp only [cgetN, Option.some.injEq, Prod.mk.injEq] at hq
    exact ⟨y', by simp [csetN, cgetN, hq.2], fun _ => rfl, fun h => absurd rfl h⟩
  | i :: p, [], x, l, y, l', y', z, lz, h, hl, hq, hpq => by
    simp only [cgetN, Option.some.injEq, Prod.mk.injEq] at hq
    obtain ⟨rfl, rfl⟩ := hq
    refine ⟨_, rfl, fun h => by simp at h, fun _ => ?_⟩
    cases x <;> simp only [cgetN] at h <;> try (cases h; done)
    · rename_i o s A c xs
      split at h
      · cases h
      · split at h
        · rename_i u hu; simp only [csetN, hu]; exact ⟨_, rfl, by simp⟩
        · cases h
    · simp [SameHdr]
  | i :: p, j :: q, x, l, y, l', y', z, lz, h, hl, hq, hpq => by
    have hpq' : i = j → p.isPrefixOf q = true → p = q := fun e h' => by
      have := hpq (by rw [isPrefixOf_cons]; simp [e, h'])
      simp only [List.cons.injEq] at this; exact this.2
    cases x <;> simp only [cgetN] at h hq <;> try (cases h; done)
    · rename_i o s A c xs
      split at h
      · cases h
      rename_i ho
      rw [if_neg ho] at hq
      split at h
      case h_2 => cases h
      rename_i u hu
      split at hq
      case h_2 => cases hq
      rename_i v hv
      simp only [csetN, hu, cgetN, if_neg ho]
      by_cases e : i = j
      · subst e
        rw [hu] at hv; cases hv
        obtain ⟨z', h1, h2, h3⟩ := get_set p q u _ y l' y' z lz h hl hq (hpq' rfl)
        rw [List.getElem?_set_self (List.getElem?_eq_some_iff.1 hu).1]
        exact ⟨z', h1, fun e => h2 (by simpa using e), fun e => h3 (by simpa using e)⟩
      · rw [List.getElem?_set_ne e, hv]
        refine ⟨z, hq, fun e' => absurd (List.cons.inj e').1 e, fun _ => ?_⟩
        cases z <;> simp [SameHdr]
    · rename_i xs
      split at h
      case h_2 => cases h
      rename_i u hu
      split at hq
      case h_2 => cases hq
      rename_i v hv
      simp only [csetN, hu, cgetN]
      by_cases e : i = j
      · subst e
        rw [hu] at hv; cases hv
        obtain ⟨z', h1, h2, h3⟩ := get_set p q u _ y l' y' z lz h hl hq (hpq' rfl)
        rw [List.getElem?_set_self (List.getElem?_eq_some_iff.1 hu).1, List.take_set_of_le (Nat.le_refl _)]
        exact ⟨z', h1, fun e => h2 (by simpa using e), fun e => h3 (by simpa using e)⟩
      · rw [List.getElem?_set_ne e, hv]
        have hlen : (flats ((xs.set i (csetN u p y')).take j)).length = (flats (xs.take j)).length := by
          rcases Nat.lt_or_ge i j with hij | hij
          · rw [List.take_set]
            have hu' : (xs.take j)[i]? = some u := by rw [List.getElem?_take_of_lt hij]; exact hu
            rw [flats_set hu', flats_cut hu']
            simp [len_set p u _ y l' y' h hl]
          · rw [List.take_set_of_le hij]
        rw [hlen]
        refine ⟨z, hq, fun e' => absurd (List.cons.inj e').1 e, fun _ => ?_⟩
        cases z <;> simp [SameHdr]
end Go.Bv
