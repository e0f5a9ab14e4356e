/- Lending a place of the frame to a call that may turn what lies there. Generic: no program. -/
import Derived.Test.YtjmodjanaeoiiaaBvBu
namespace Go.Bv
open Go Go.RowKit
set_option linter.unusedSimpArgs false
set_option linter.unusedVariables false

/-- A way through structs alone. -/
def aggPath : AV → List Nat → Bool
  | _, [] => true
  | .agg xs, i :: q => match xs[i]? with | some z => aggPath z q | none => false
  | _, _ :: _ => false
mutual
/-- The same but for what lies behind the lists' headers. -/
def skA : AV → AV → Bool
  | .lst o s _, z => match z with | .lst o' s' _ => o == o' && s == s' | _ => false
  | .agg xs, z => match z with | .agg ys => skAs xs ys | _ => false
  | x, z => match z with | .lst _ _ _ => false | .agg _ => false | _ => true
def skAs : List AV → List AV → Bool
  | [], ys => match ys with | [] => true | _ => false
  | x :: xs, ys => match ys with | y :: ys => skA x y && skAs xs ys | [] => false
end
mutual
theorem sk_len : ∀ (x y : CV), skA (er x) (er y) = true → (flat x).length = (flat y).length
  | .lst _ _ _ _ _, y, h => by cases y <;> simp_all [er, skA, flat]
  | .agg xs, y, h => by
    cases y <;> simp only [er, skA] at h <;> try (cases h; done)
    simp only [flat]; exact sks_len xs _ h
  | .undef _, y, h | .bool _, y, h | .int _ _, y, h | .str _, y, h | .tup _, y, h | .fn _ _, y, h | .ip _ _, y, h | .at _ _ _, y, h | .ref _ _ _ _ _, y, h | .box _ _ _, y, h => by
    cases y <;> simp_all [er, skA, flat]
theorem sks_len : ∀ (xs ys : List CV), skAs (ers xs) (ers ys) = true → (flats xs).length = (flats ys).length
  | [], [], _ => rfl
  | [], _ :: _, h => by simp [ers, skAs] at h
  | _ :: _, [], h => by simp [ers, skAs] at h
  | x :: xs, y :: ys, h => by
    simp only [ers, skAs, Bool.and_eq_true] at h
    simp only [flats, List.length_append, sk_len x y h.1, sks_len xs ys h.2]
end
mutual
/-- .. and the headers are the same. -/
def SkC : CV → CV → Prop
  | .lst o s A c xs, z => ∃ ys, z = .lst o s A c ys ∧ ys.length = xs.length
  | .agg xs, z => ∃ ys, z = .agg ys ∧ SkCs xs ys
  | x, z => (flat z).length = 1 ∧ (∀ ys, z ≠ .agg ys)
def SkCs : List CV → List CV → Prop
  | [], ys => ys = []
  | x :: xs, ys => ∃ y zs, ys = y :: zs ∧ SkC x y ∧ SkCs xs zs
end
mutual
theorem skC_of : ∀ (x y : CV), skA (er x) (er y) = true → flat y = flat x → SkC x y
  | .lst o s A c xs, y, h, hf => by
    cases y <;> simp only [er, skA, Bool.and_eq_true, beq_iff_eq] at h <;> try (cases h; done)
    rename_i o' s' A' c' ys
    simp only [flat, List.cons.injEq, Value.slice.injEq, and_true] at hf
    obtain ⟨rfl, rfl⟩ := h
    obtain ⟨rfl, hl, rfl⟩ := hf
    exact ⟨ys, rfl, hl⟩
  | .agg xs, y, h, hf => by
    cases y <;> simp only [er, skA] at h <;> try (cases h; done)
    rename_i ys
    simp only [flat] at hf
    exact ⟨ys, rfl, skCs_of xs ys h hf⟩
  | .undef _, y, h, hf | .bool _, y, h, hf | .int _ _, y, h, hf | .str _, y, h, hf | .tup _, y, h, hf | .fn _ _, y, h, hf | .ip _ _, y, h, hf | .at _ _ _, y, h, hf | .ref _ _ _ _ _, y, h, hf | .box _ _ _, y, h, hf => by
    cases y <;> simp_all [er, skA, SkC, flat]
theorem skCs_of : ∀ (xs ys : List CV), skAs (ers xs) (ers ys) = true → flats ys = flats xs → SkCs xs ys
  | [], [], _, _ => rfl
  | [], _ :: _, h, _ => by simp [ers, skAs] at h
  | _ :: _, [], h, _ => by simp [ers, skAs] at h
  | x :: xs, y :: ys, h, hf => by
    simp only [ers, skAs, Bool.and_eq_true] at h
    simp only [flats] at hf
    obtain ⟨h1, h2⟩ := List.append_inj hf (sk_len x y h.1).symm
    exact ⟨y, ys, rfl, skC_of x y h.1 h1, skCs_of xs ys h.2 h2⟩
end
mutual
theorem skC_len : ∀ (x y : CV), SkC x y → (flat y).length = (flat x).length
  | .lst _ _ _ _ _, _, ⟨_, h, _⟩ => by subst h; simp [flat]
  | .agg xs, _, ⟨ys, h, hs⟩ => by subst h; simp only [flat]; exact skCs_len xs ys hs
  | .undef _, _, h | .bool _, _, h | .int _ _, _, h | .str _, _, h | .tup _, _, h | .fn _ _, _, h | .ip _ _, _, h | .at _ _ _, _, h | .ref _ _ _ _ _, _, h | .box _ _ _, _, h => by
    simp only [SkC] at h; simp [flat, h.1]
theorem skCs_len : ∀ (xs ys : List CV), SkCs xs ys → (flats ys).length = (flats xs).length
  | [], _, h => by simp only [SkCs] at h; subst h; rfl
  | x :: xs, _, ⟨y, zs, h, h1, h2⟩ => by subst h; simp only [flats, List.length_append, skC_len x y h1, skCs_len xs zs h2]
end
theorem skCs_at : ∀ {xs ys : List CV} {i : Nat} {x : CV}, SkCs xs ys → xs[i]? = some x → ∃ y, ys[i]? = some y ∧ SkC x y ∧ (flats (ys.take i)).length = (flats (xs.take i)).length
  | [], _, _, _, _, h => by simp at h
  | x0 :: xs, ys, 0, x, ⟨y, zs, e, h1, _⟩, h => by
    simp only [List.getElem?_cons_zero, Option.some.injEq] at h
    subst h; subst e
    exact ⟨y, rfl, h1, by simp⟩
  | x0 :: xs, ys, i + 1, x, ⟨y, zs, e, h1, h2⟩, h => by
    subst e
    obtain ⟨z, k1, k2, k3⟩ := skCs_at h2 (by simpa using h)
    refine ⟨z, by simpa using k1, k2, ?_⟩
    simp only [List.take_succ_cons, flats, List.length_append, k3]
    have := skC_len x0 y h1
    omega
theorem get_sk : ∀ (q : List Nat) (x y : CV) (l : Option Addr) (z : CV) (lz : Option Addr), SkC x y → aggPath (er x) q = true → cgetN x l q = some (z, lz) → ∃ z', cgetN y l q = some (z', lz) ∧ SkC z z'
  | [], x, y, l, z, lz, h, _, hg => by
    simp only [cgetN, Option.some.injEq, Prod.mk.injEq] at hg
    obtain ⟨rfl, rfl⟩ := hg
    exact ⟨y, rfl, h⟩
  | i :: q, x, y, l, z, lz, h, hp, hg => by
    cases x <;> simp only [er, aggPath] at hp <;> try (cases hp; done)
    rename_i xs
    obtain ⟨ys, rfl, hs⟩ := h
    simp only [cgetN] at hg ⊢
    cases hx : xs[i]? with
    | none => simp [hx] at hg
    | some u =>
      simp only [hx] at hg
      rw [ers_eq, List.getElem?_map, hx] at hp
      simp only [Option.map_some] at hp
      obtain ⟨v, k1, k2, k3⟩ := skCs_at hs hx
      rw [k1, k3]
      exact get_sk q u v _ z lz k2 hp hg

mutual
/-- What is left of a value when its lists are lent. -/
def cstrip : CV → CV
  | .lst true _ A c xs => .undef (.slice A xs.length c)
  | .agg xs => .agg (cstrips xs)
  | x => x
def cstrips : List CV → List CV
  | [] => []
  | x :: xs => cstrip x :: cstrips xs
end
mutual
theorem cstrip_flat : ∀ x : CV, flat (cstrip x) = flat x
  | .lst o s A c xs => by cases o <;> simp [cstrip, flat]
  | .agg xs => by simp only [cstrip, flat]; exact cstrips_flat xs
  | .undef _ | .bool _ | .int _ _ | .str _ | .tup _ | .fn _ _ | .ip _ _ | .at _ _ _ | .ref _ _ _ _ _ | .box _ _ _ => by simp [cstrip]
theorem cstrips_flat : ∀ xs : List CV, flats (cstrips xs) = flats xs
  | [] => rfl
  | x :: xs => by simp only [cstrips, flats, cstrip_flat x, cstrips_flat xs]
end
mutual
theorem cstrip_ok {w : World} {Z : Nat → Prop} : ∀ x : CV, Pl x → Ok w Z x → Ok w Z (cstrip x) ∧ fp (cstrip x) = [] ∧ Pl (cstrip x) ∧ ((∃ ys, cstrip x = .agg ys) ↔ ∃ ys, x = .agg ys)
  | .lst o s A c xs, hp, hk => by
    cases o
    · have h' := hk
      simp only [Ok] at h'
      simp only [cstrip]
      refine ⟨hk, ?_, hp, ?_⟩
      · simp [fp, h'.2.2.1]
      · simp
    · simp [cstrip, Ok, fp, Pl, Value.oneCell']
  | .agg xs, hp, hk => by
    simp only [Pl] at hp
    simp only [Ok] at hk
    have := cstrips_ok xs hp hk
    simp only [cstrip, Ok, fp, Pl]
    exact ⟨this.1, this.2.1, this.2.2, by simp⟩
  | .fn f xs, hp, hk => by
    have h' := hk
    simp only [Ok] at h'
    exact ⟨by simpa only [cstrip] using hk, by simp [cstrip, fp, h'.1], by simpa only [cstrip] using hp, by simp [cstrip]⟩
  | .ip a x, hp, hk => ⟨by simpa only [cstrip] using hk, by simp [cstrip, fp], by simpa only [cstrip] using hp, by simp [cstrip]⟩
  | .undef v, hp, _ => ⟨by simp [cstrip, Ok], by simp [cstrip, fp], by simpa only [cstrip] using hp, by simp [cstrip]⟩
  | .bool _, _, _ | .int _ _, _, _ | .str _, _, _ => by simp [cstrip, Ok, fp, Pl]
  | .box _ _ _, hp, _ | .tup _, hp, _ | .at _ _ _, hp, _ | .ref _ _ _ _ _, hp, _ => by simp [Pl] at hp
theorem cstrips_ok {w : World} {Z : Nat → Prop} : ∀ xs : List CV, PlL xs → OkL w Z xs → OkL w Z (cstrips xs) ∧ fps (cstrips xs) = [] ∧ PlL (cstrips xs)
  | [], _, _ => ⟨by simp [cstrips, OkL], rfl, by simp [cstrips, PlL]⟩
  | x :: xs, hp, hk => by
    simp only [PlL] at hp
    simp only [OkL] at hk
    have a := cstrip_ok (w := w) (Z := Z) x hp.1 hk.1
    have b := cstrips_ok (w := w) (Z := Z) xs hp.2 hk.2
    simp only [cstrips, OkL, fps, PlL]
    exact ⟨⟨a.1, b.1⟩, by simp [a.2.1, b.2.1], ⟨a.2.2.1, b.2.2⟩⟩
end

theorem get_in : ∀ (p q : List Nat) (x : CV) (l : Option Addr) (y : CV) (l' : Option Addr), cgetN x l p = some (y, l') → cgetN x l (p ++ q) = cgetN y l' q
  | [], q, x, l, y, l', h => by simp only [cgetN, Option.some.injEq, Prod.mk.injEq] at h; rw [h.1, h.2]; rfl
  | i :: p, q, x, l, y, l', h => by
    cases x <;> simp only [cgetN] at h <;> try (cases h; done)
    · rename_i o s A c xs
      simp only [List.cons_append, cgetN]
      split at h
      · cases h
      rename_i ho
      rw [if_neg ho]
      cases hu : xs[i]? with
      | none => simp [hu] at h
      | some u => simp only [hu] at h ⊢; exact get_in p q u _ y l' h
    · rename_i xs
      simp only [List.cons_append, cgetN]
      cases hu : xs[i]? with
      | none => simp [hu] at h
      | some u => simp only [hu] at h ⊢; exact get_in p q u _ y l' h
theorem get_set_in : ∀ (p q : List Nat) (x : CV) (l : Option Addr) (y : CV) (l' : Option Addr) (d : CV), cgetN x l p = some (y, l') → cgetN (csetN x p d) l (p ++ q) = cgetN d l' q
  | [], q, x, l, y, l', d, h => by simp only [cgetN, Option.some.injEq, Prod.mk.injEq] at h; rw [h.2]; rfl
  | i :: p, q, x, l, y, l', d, h => by
    cases x <;> simp only [cgetN] at h <;> try (cases h; done)
    · rename_i o s A c xs
      split at h
      · cases h
      rename_i ho
      cases hu : xs[i]? with
      | none => simp [hu] at h
      | some u =>
        simp only [hu] at h
        simp only [csetN, hu, List.cons_append, cgetN, if_neg ho]
        rw [List.getElem?_set_self (List.getElem?_eq_some_iff.1 hu).1]
        exact get_set_in p q u _ y l' d h
    · rename_i xs
      cases hu : xs[i]? with
      | none => simp [hu] at h
      | some u =>
        simp only [hu] at h
        simp only [csetN, hu, List.cons_append, cgetN]
        rw [List.getElem?_set_self (List.getElem?_eq_some_iff.1 hu).1]
        have : (xs.set i (csetN u p d)).take i = xs.take i := by rw [List.take_set_of_le (Nat.le_refl _)]
        rw [this]
        exact get_set_in p q u _ y l' d h
theorem set_set : ∀ (p : List Nat) (x : CV) (l : Option Addr) (y : CV) (l' : Option Addr) (d e : CV), cgetN x l p = some (y, l') → csetN (csetN x p d) p e = csetN x p e
  | [], _, _, _, _, _, _, _ => rfl
  | i :: p, x, l, y, l', d, e, h => by
    cases x <;> simp only [cgetN] at h <;> try (cases h; done)
    · rename_i o s A c xs
      split at h
      · cases h
      cases hu : xs[i]? with
      | none => simp [hu] at h
      | some u =>
        simp only [hu] at h
        simp only [csetN, hu]
        rw [List.getElem?_set_self (List.getElem?_eq_some_iff.1 hu).1]
        simp only [List.set_set]
        rw [set_set p u _ y l' d e h]
    · rename_i xs
      cases hu : xs[i]? with
      | none => simp [hu] at h
      | some u =>
        simp only [hu] at h
        simp only [csetN, hu]
        rw [List.getElem?_set_self (List.getElem?_eq_some_iff.1 hu).1]
        simp only [List.set_set]
        rw [set_set p u _ y l' d e h]

mutual
/-- Leans on what lies behind a list's header within the place. -/
def hin (r : Nat) (p : List Nat) (y : AV) : CV → Bool
  | .ref r' q _ _ _ => r == r' && p.isPrefixOf q && !aggPath y (q.drop p.length)
  | .at r' q _ => r == r' && p.isPrefixOf q && !aggPath y (q.drop p.length)
  | .agg xs => hins r p y xs
  | .tup xs => hins r p y xs
  | .fn _ xs => hins r p y xs
  | _ => false
def hins (r : Nat) (p : List Nat) (y : AV) : List CV → Bool
  | [] => false
  | x :: xs => hin r p y x || hins r p y xs
end
mutual
def hinA (r : Nat) (p : List Nat) (y : AV) : AV → Bool
  | .ref r' q _ _ => r == r' && p.isPrefixOf q && !aggPath y (q.drop p.length)
  | .at r' q => r == r' && p.isPrefixOf q && !aggPath y (q.drop p.length)
  | .agg xs => hinAs r p y xs
  | .tup xs => hinAs r p y xs
  | .fn _ xs => hinAs r p y xs
  | _ => false
def hinAs (r : Nat) (p : List Nat) (y : AV) : List AV → Bool
  | [] => false
  | x :: xs => hinA r p y x || hinAs r p y xs
end
mutual
theorem hin_er (r : Nat) (p : List Nat) (y : AV) : ∀ x : CV, hinA r p y (er x) = hin r p y x
  | .agg xs | .tup xs | .fn _ xs => by simp only [er, hinA, hin, hins_er r p y xs]
  | .undef _ | .bool _ | .int _ _ | .str _ | .lst _ _ _ _ _ | .ip _ _ | .at _ _ _ | .ref _ _ _ _ _ | .box _ _ _ => by simp [er, hinA, hin]
theorem hins_er (r : Nat) (p : List Nat) (y : AV) : ∀ xs : List CV, hinAs r p y (ers xs) = hins r p y xs
  | [] => rfl
  | x :: xs => by simp only [ers, hinAs, hins, hin_er r p y x, hins_er r p y xs]
end
mutual
theorem Pl.hin (r : Nat) (p : List Nat) (y : AV) : ∀ x : CV, Pl x → hin r p y x = false
  | .agg xs, h | .fn _ xs, h => by simp only [Pl] at h; simp only [Bv.hin]; exact PlL.hin r p y xs h
  | .undef _, _ | .bool _, _ | .int _ _, _ | .str _, _ | .lst _ _ _ _ _, _ | .ip _ _, _ => by simp [Bv.hin]
  | .tup _, h | .at _ _ _, h | .ref _ _ _ _ _, h | .box _ _ _, h => by simp [Pl] at h
theorem PlL.hin (r : Nat) (p : List Nat) (y : AV) : ∀ xs : List CV, PlL xs → hins r p y xs = false
  | [], _ => rfl
  | x :: xs, h => by simp only [PlL] at h; simp [Bv.hins, Pl.hin r p y x h.1, PlL.hin r p y xs h.2]
end
theorem root_hin {r : Nat} {p : List Nat} {y : AV} {x : CV} (h : Pl (rootC x).1) : hin r p y x = false := by
  cases x <;> first | (simp [Bv.hin]; done) | exact Pl.hin r p y _ h

/-- Given back. -/
def cback (Sc : List CV) (r : Nat) (p : List Nat) (y : AV) (x0 d : CV) : List CV := (Sc.map fun x => if hin r p y x then .undef (val x) else x).set r (csetR x0 p d)
def aback (S : List AV) (r : Nat) (p : List Nat) (y : AV) (d : AV) : List AV :=
  match S[r]? with
  | some x0 => (S.map fun x => if hinA r p y x then .undef else x).set r (asetR x0 p d)
  | none => S
theorem er_cback {Sc : List CV} {r : Nat} {p : List Nat} {y : AV} {x0 d : CV} (hx : Sc[r]? = some x0) : ers (cback Sc r p y x0 d) = aback (ers Sc) r p y (er d) := by
  have hx' : (ers Sc)[r]? = some (er x0) := by rw [ers_eq, List.getElem?_map, hx]; rfl
  simp only [cback, aback, hx', ers_set, er_csetR]
  congr 1
  simp only [ers_eq, List.map_map]
  apply List.map_congr_left
  intro x _
  simp only [Function.comp, hin_er]
  split <;> simp [er]
end Go.Bv
