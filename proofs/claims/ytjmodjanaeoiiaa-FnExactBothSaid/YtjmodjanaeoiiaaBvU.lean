/- The table of a program's types, read off the program. Generic: no program. -/
import Derived.Test.YtjmodjanaeoiiaaBvT
namespace Go.Bv
open Go Go.RowKit
set_option linter.unusedSimpArgs false
set_option linter.unusedVariables false

def kindOf (P : Program) (T : Nat) : Kd :=
  match P.info? T, P.underlying T with
  | some _, some (.int k) => .int k
  | some _, some .bool => .bool
  | some _, some .string => .str
  | some _, some (.slice E) => .sl E
  | some _, some (.struct F) => .st (F.toList.map (·.type))
  | some _, some (.pointer _) => .ptr
  | _, _ => .no
def zread1 : Value → Option AV
  | .bool b => some (.bool b)
  | .int k n => some (.int k n)
  | .string s => some (.str s)
  | .slice none 0 0 => some (.lst true 0 [])
  | _ => none
mutual
/-- The value that stands in the first of the cells. -/
def zread (P : Program) : Nat → Nat → List Value → Option (AV × List Value)
  | 0, _, _ => none
  | n + 1, T, cs => match kindOf P T with
    | .st fs => (match zreads P n fs cs with | some (zs, r) => some (.agg zs, r) | none => none)
    | _ => (match cs with | c :: r => (match zread1 c with | some z => some (z, r) | none => none) | [] => none)
def zreads (P : Program) : Nat → List Nat → List Value → Option (List AV × List Value)
  | 0, _, _ => none
  | _ + 1, [], cs => some ([], cs)
  | n + 1, T :: Ts, cs => match zread P n T cs with
    | some (z, r) => (match zreads P n Ts r with | some (zs, r') => some (z :: zs, r') | none => none)
    | none => none
end
def zeroOf (P : Program) (T : Nat) : Option AV :=
  match P.info? T with
  | some i => (match i.zero with
    | some v => if v.cells.size = i.size then (match zread P 40 T v.cells.toList with | some (z, []) => some z | _ => none) else none
    | none => none)
  | none => none
def tabOf (P : Program) : Tab where
  kind := kindOf P
  size T := match P.info? T with | some i => i.size | none => 0
  bytes T := match P.info? T with | some i => i.bytes | none => 0
  off T f := match P.underlying T with | some (.struct F) => (match F[f]? with | some fd => fd.offset | none => 0) | _ => 0
  zero := zeroOf P

theorem zread1_ok {v : Value} {z : AV} (h : zread1 v = some z) : zplain z = true ∧ zcells z = [v] := by
  cases v with
  | slice a n c =>
    simp only [zread1] at h
    split at h <;> try (cases h; done)
    all_goals (simp only [Option.some.injEq] at h; subst h; simp_all [zplain, zcells])
  | _ => simp [zread1] at h <;> (subst h; simp [zplain, zcells])
mutual
theorem zread_ok (P : Program) : ∀ (n T : Nat) (cs : List Value) (z : AV) (r : List Value), zread P n T cs = some (z, r) → zplain z = true ∧ cs = zcells z ++ r
  | 0, _, _, _, _, h => by simp [zread] at h
  | n + 1, T, cs, z, r, h => by
    simp only [zread] at h
    split at h
    · split at h
      · rename_i zs r' hz
        simp only [Option.some.injEq, Prod.mk.injEq] at h
        obtain ⟨rfl, rfl⟩ := h
        obtain ⟨h1, h2⟩ := zreads_ok P n _ cs zs r' hz
        exact ⟨by simpa [zplain] using h1, by simpa [zcells] using h2⟩
      · cases h
    · split at h
      · split at h
        · rename_i z' hz
          simp only [Option.some.injEq, Prod.mk.injEq] at h
          obtain ⟨rfl, rfl⟩ := h
          obtain ⟨h1, h2⟩ := zread1_ok hz
          exact ⟨h1, by rw [h2]; rfl⟩
        · cases h
      · cases h
theorem zreads_ok (P : Program) : ∀ (n : Nat) (Ts : List Nat) (cs : List Value) (zs : List AV) (r : List Value), zreads P n Ts cs = some (zs, r) → zplains zs = true ∧ cs = zcellss zs ++ r
  | 0, _, _, _, _, h => by simp [zreads] at h
  | n + 1, [], cs, zs, r, h => by
    simp only [zreads, Option.some.injEq, Prod.mk.injEq] at h
    obtain ⟨rfl, rfl⟩ := h
    simp [zplains, zcellss]
  | n + 1, T :: Ts, cs, zs, r, h => by
    simp only [zreads] at h
    split at h
    · rename_i z r1 hz
      split at h
      · rename_i zs' r' hzs
        simp only [Option.some.injEq, Prod.mk.injEq] at h
        obtain ⟨rfl, rfl⟩ := h
        obtain ⟨h1, h2⟩ := zread_ok P n T cs z r1 hz
        obtain ⟨h3, h4⟩ := zreads_ok P n Ts r1 zs' r' hzs
        exact ⟨by simp [zplains, h1, h3], by rw [h2, h4]; simp [zcellss]⟩
      · cases h
    · cases h
end
theorem kindOf_info {P : Program} {T : Nat} (h : kindOf P T ≠ .no) : ∃ i, P.info? T = some i := by
  unfold kindOf at h
  cases hi : P.info? T with
  | none => simp [hi] at h
  | some i => exact ⟨i, rfl⟩
theorem kindOf_under {P : Program} {T : Nat} {k : Kd} (h : kindOf P T = k) (hk : k ≠ .no) : ∃ d, P.underlying T = some d ∧ (match d with
    | .int q => k = .int q | .bool => k = .bool | .string => k = .str | .slice E => k = .sl E | .struct F => k = .st (F.toList.map (·.type)) | .pointer _ => k = .ptr | _ => False) := by
  subst h
  unfold kindOf at hk ⊢
  cases hi : P.info? T with
  | none => simp [hi] at hk
  | some i =>
    cases hu : P.underlying T with
    | none => simp [hi, hu] at hk
    | some d =>
      refine ⟨d, rfl, ?_⟩
      simp only [hi, hu] at hk ⊢
      cases d <;> simp_all
def kdOf : TypeDesc → Kd
  | .int k => .int k
  | .bool => .bool
  | .string => .str
  | .slice E => .sl E
  | .struct F => .st (F.toList.map (·.type))
  | .pointer _ => .ptr
  | _ => .no
theorem info_eq {P : Program} {T : Nat} {i : TypeInfo} (h : P.types[T]? = some i) : P.info? T = some i := by
  have hl := (Array.getElem?_eq_some_iff.1 h).1
  unfold Go.Tables.info?
  rw [if_pos hl]; exact h
theorem kind_eq {P : Program} {T : Nat} {i : TypeInfo} {d : TypeDesc} (h1 : P.types[T]? = some i) (h2 : P.underlying T = some d) : (tabOf P).kind T = kdOf d := by
  have h1' : P.info? T = some i := info_eq h1
  simp only [tabOf, kindOf, h1', h2]
  cases d <;> rfl
theorem kindOf_eq {P : Program} {T : Nat} {i : TypeInfo} {d : TypeDesc} (h1 : P.types[T]? = some i) (h2 : P.underlying T = some d) : kindOf P T = kdOf d := kind_eq h1 h2
theorem size_eq {P : Program} {T : Nat} {i : TypeInfo} (h1 : P.types[T]? = some i) : (tabOf P).size T = i.size := by
  have h1' : P.info? T = some i := info_eq h1
  simp only [tabOf, h1']
theorem bytes_eq {P : Program} {T : Nat} {i : TypeInfo} (h1 : P.types[T]? = some i) : (tabOf P).bytes T = i.bytes := by
  have h1' : P.info? T = some i := info_eq h1
  simp only [tabOf, h1']
theorem off_eq {P : Program} {T f : Nat} {F : Array Field} {fd : Field} (h2 : P.underlying T = some (.struct F)) (h : F[f]? = some fd) : (tabOf P).off T f = fd.offset := by
  simp only [tabOf, h2, h]
theorem zero_eq {P : Program} {T : Nat} {i : TypeInfo} {v : Value} {z : AV} (h1 : P.types[T]? = some i) (hz : i.zero = some v) (hs : v.cells.size = i.size) (hr : zread P 40 T v.cells.toList = some (z, [])) : (tabOf P).zero T = some z := by
  have h1' : P.info? T = some i := info_eq h1
  simp only [tabOf, zeroOf, h1', hz, hs, if_true, hr]
theorem tabOf_ok (P : Program) (h : P.follows .mixedOrders = true) : TabOk P (tabOf P) where
  size T hT := by
    obtain ⟨i, hi⟩ := kindOf_info hT
    exact ⟨i, hi, by simp [tabOf, hi], by simp [tabOf, hi]⟩
  int T k hT := by
    obtain ⟨d, h1, h2⟩ := kindOf_under hT (by simp)
    cases d <;> simp at h2
    subst h2; exact h1
  bool T hT := by
    obtain ⟨d, h1, h2⟩ := kindOf_under hT (by simp)
    cases d <;> simp at h2
    exact h1
  str T hT := by
    obtain ⟨d, h1, h2⟩ := kindOf_under hT (by simp)
    cases d <;> simp at h2
    exact h1
  sl T E hT := by
    obtain ⟨d, h1, h2⟩ := kindOf_under hT (by simp)
    cases d <;> simp at h2
    subst h2; exact h1
  st T fs hT := by
    obtain ⟨d, h1, h2⟩ := kindOf_under hT (by simp)
    cases d <;> simp at h2
    rename_i F
    subst h2
    refine ⟨F, h1, by simp, fun f t hf => ?_⟩
    rw [List.getElem?_map, Array.getElem?_toList] at hf
    cases hq : F[f]? with
    | none => simp [hq] at hf
    | some fd =>
      simp only [hq, Option.map_some, Option.some.injEq] at hf
      exact ⟨fd, rfl, hf, by simp [tabOf, h1, hq]⟩
  ptr T hT := by
    obtain ⟨d, h1, h2⟩ := kindOf_under hT (by simp)
    cases d <;> simp at h2
    exact ⟨_, h1⟩
  zero T z hz := by
    simp only [tabOf, zeroOf] at hz
    split at hz
    · rename_i i hi
      split at hz
      · rename_i v hv
        split at hz
        · rename_i hs
          split at hz
          · rename_i z' hr
            simp only [Option.some.injEq] at hz
            subst hz
            obtain ⟨h1, h2⟩ := zread_ok P 40 T _ _ _ hr
            exact ⟨h1, i, v, hi, hv, by simpa using h2, hs⟩
          · cases hz
        · cases hz
      · cases hz
    · cases hz
  follows := h
end Go.Bv
