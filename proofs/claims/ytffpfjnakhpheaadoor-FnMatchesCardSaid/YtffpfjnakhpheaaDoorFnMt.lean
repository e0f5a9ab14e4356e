/- A name matches itself, `>` and as many stars as it has parts: plainly. -/
import Derived.Test.YtffpfjnakhpheaaDoorFnNg
namespace Go.Proofs.YtffpfjnakhpheaaDoor
open Go Go.RowKit Go.Bv
set_option linter.unusedSimpArgs false
set_option linter.unusedVariables false
set_option maxRecDepth 4000
set_option maxHeartbeats 1000000

theorem ix_mid : ∀ {a b : List UInt8} {c : UInt8}, (∀ x ∈ a, x ≠ c) → Lib.indexByte (a ++ c :: b) c = a.length
  | [], b, c, _ => by simp [Lib.indexByte]
  | x :: a, b, c, h => by
    have hx := h x (by simp)
    have ih := ix_mid (a := a) (b := b) fun y hy => h y (by simp [hy])
    rw [List.cons_append, Lib.indexByte, if_neg (by simpa using hx), ih, if_neg (by simp)]
    simp
theorem ix_no : ∀ {a : List UInt8} {c : UInt8}, (∀ x ∈ a, x ≠ c) → Lib.indexByte a c = -1
  | [], c, _ => rfl
  | x :: a, c, h => by
    have hx := h x (by simp)
    have ih := ix_no (a := a) fun y hy => h y (by simp [hy])
    rw [Lib.indexByte, if_neg (by simpa using hx), ih, if_pos (by simp)]
def noDot (a : ByteArray) : Prop := ∀ x ∈ a.data.toList, x ≠ 46
theorem app_l (a b : ByteArray) : (a ++ b).data.toList = a.data.toList ++ b.data.toList := by simp
theorem parts_one {a : ByteArray} (h : noDot a) : partsS a = [a] := by
  have hi : Lib.indexB a dotT = -1 := by
    show Lib.index _ [46] = _
    rw [Lib.index_one, ix_no h]
  rw [← split_parts, Lib.countB_miss _ _ hi, Lib.splitB_zero]
theorem parts_cons {a b : ByteArray} (h : noDot a) : partsS (a ++ (dotT ++ b)) = a :: partsS b := by
  have hl : (a ++ (dotT ++ b)).data.toList = a.data.toList ++ 46 :: b.data.toList := by rw [app_l, app_l]; rfl
  have hi : Lib.indexB (a ++ (dotT ++ b)) dotT = a.size := by
    show Lib.index _ [46] = _
    rw [hl, Lib.index_one, ix_mid h, sz_l]
  have hsz : (a ++ (dotT ++ b)).size = a.size + 1 + b.size := by
    rw [← sz_l, hl, List.length_append, List.length_cons, sz_l, sz_l]; omega
  have e1 : (a ++ (dotT ++ b)).extract 0 (a.size + 0) = a := ba_ext (by
    rw [ext_l, hl, List.drop_zero, Nat.sub_zero, Nat.add_zero, ← sz_l a, List.take_left])
  have e2 : (a ++ (dotT ++ b)).extract (a.size + dotT.size) (a ++ (dotT ++ b)).size = b := ba_ext (by
    rw [ext_l, hl, hsz, ← sz_l a]
    have : dotT.size = 1 := rfl
    rw [this, List.drop_append, List.drop_eq_nil_of_le (by omega), show a.data.toList.length + 1 - a.data.toList.length = 1 by omega]
    simp only [List.nil_append, List.drop_succ_cons, List.drop_zero]
    rw [List.take_of_length_le]
    rw [sz_l]; omega)
  rw [← split_parts, Lib.countB_hit _ _ a.size (by decide) hi, Nat.add_comm 1, Lib.splitB_hit _ _ _ _ a.size hi, e1, e2, split_parts]
/-- How many dots there are ahead. -/
def dotsN (s : ByteArray) : Nat → Nat
  | 0 => 0
  | k + 1 => dotsN s k + if dotAt s k = true then 1 else 0
theorem parts_dots (s : ByteArray) : ∀ k, k ≤ s.size → (partsN s k).1.length = dotsN s k
  | 0, _ => rfl
  | k + 1, h => by
    have ih := parts_dots s k (by omega)
    rw [partsN, dotsN]
    cases hd : dotAt s k
    · rw [if_neg (by simp; omega), ih]; simp
    · rw [if_pos (by simp)]; simp [ih]
theorem partsS_dots (s : ByteArray) : (partsS s).length = dotsN s s.size + 1 := by
  rw [partsS, partsN, if_pos (.inl rfl)]
  simp [parts_dots s s.size (Nat.le_refl _)]
def sizes (ps : List ByteArray) : Nat := (ps.map ByteArray.size).sum
theorem parts_sizes (s : ByteArray) : ∀ k, k ≤ s.size + 1 → sizes (partsN s k).1 + (partsN s k).1.length = (partsN s k).2
  | 0, _ => rfl
  | k + 1, h => by
    have ih := parts_sizes s k (by omega)
    have hle := (partsN_le s k).1
    rw [partsN]
    split
    · have e : (s.extract (partsN s k).2 k).size = k - (partsN s k).2 := by rw [ByteArray.size_extract]; omega
      simp only [sizes, List.map_append, List.map_cons, List.map_nil, List.sum_append, List.sum_cons, List.sum_nil, List.length_append, List.length_cons, List.length_nil, e] at ih ⊢
      omega
    · exact ih
theorem partsS_sizes (s : ByteArray) : sizes (partsS s) + (partsS s).length = s.size + 1 := by
  have := parts_sizes s (s.size + 1) (Nat.le_refl _)
  rw [partsS, this, partsN, if_pos (.inl rfl)]
theorem sizes_ge {ps : List ByteArray} (h : ∀ p ∈ ps, 1 ≤ p.size) : ps.length ≤ sizes ps := by
  induction ps with
  | nil => exact Nat.le_refl _
  | cons p ps ih =>
    have h1 := h p (by simp)
    have h2 := ih fun q hq => h q (by simp [hq])
    simp only [sizes, List.map_cons, List.sum_cons, List.length_cons] at h2 ⊢
    omega
theorem plain_size {p : ByteArray} (h : plainB p = true) : 1 ≤ p.size := by
  rcases Nat.eq_zero_or_pos p.size with h0 | h0
  · have : p = { data := #[] } := ByteArray.ext (Array.eq_empty_of_size_eq_zero h0)
    subst this
    simp [plainB, isE] at h
  · exact h0
theorem right_parts {s : ByteArray} (h : rightB false s = true) : 1 ≤ s.size ∧ s.size ≤ 24 ∧ ∀ p ∈ partsS s, plainB p = true := by
  simp only [rightB, Bool.and_eq_true, decide_eq_true_eq, rightL, List.all_eq_true, List.mem_range] at h
  refine ⟨by omega, by omega, fun p hp => ?_⟩
  obtain ⟨i, hi⟩ := List.getElem?_of_mem hp
  have := h.2 i (List.getElem?_eq_some_iff.1 hi).1
  simpa [okP, hi] using this
theorem right_of_all {s : ByteArray} (h1 : 1 ≤ s.size) (h2 : s.size ≤ 24) (h : ∀ (i : Nat) p, (partsS s)[i]? = some p → plainB p = true ∨ isT p 42 = true ∨ (isT p 62 = true ∧ i + 1 = (partsS s).length)) : rightB true s = true := by
  simp only [rightB, Bool.and_eq_true, decide_eq_true_eq, rightL, List.all_eq_true, List.mem_range]
  refine ⟨⟨by omega, by omega⟩, fun i hi => ?_⟩
  obtain ⟨p, hp⟩ : ∃ p, (partsS s)[i]? = some p := ⟨_, List.getElem?_eq_getElem hi⟩
  simp only [okP, hp, Bool.true_and, Bool.or_eq_true, Bool.and_eq_true, beq_iff_eq]
  rcases h i p hp with h | h | ⟨h, h'⟩
  · exact .inr h
  · exact .inl (.inl h)
  · exact .inl (.inr ⟨h, by omega⟩)
theorem right_true {s : ByteArray} (h : rightB false s = true) : rightB true s = true := by
  obtain ⟨h1, h2, h3⟩ := right_parts h
  exact right_of_all h1 h2 fun i p hp => .inl (h3 p (List.mem_of_getElem? hp))
theorem eqT_self (x : ByteArray) : eqT x x = true := by simp [eqT]
theorem match_self : ∀ ps : List ByteArray, matchL ps ps = true
  | [] => rfl
  | x :: ps => by simp [matchL, eqT_self, match_self ps]
theorem m_self {s : ByteArray} (h : rightB false s = true) : matchB s s = true := by
  rw [matchB, h, right_true h, match_self]; rfl
def gtT : ByteArray := { data := #[62] }
def starT : ByteArray := { data := #[42] }
theorem isT_gt : isT gtT 62 = true := beq_self_eq_true _
theorem isT_star : isT starT 42 = true := beq_self_eq_true _
theorem isT_star62 : isT starT 62 = false := by rw [isT, ByteArray.toList_eq, ByteArray.toList_eq]; decide
theorem m_all {s : ByteArray} (h : rightB false s = true) : matchB s gtT = true := by
  have hp : partsS gtT = [gtT] := parts_one (by intro x hx; have : x = 62 := by simpa [gtT] using hx
                                                subst this; decide)
  have hr : rightB true gtT = true := right_of_all (by decide) (by decide) fun i p hi => by
    rw [hp] at hi ⊢
    cases i with
    | zero => simp only [List.getElem?_cons_zero, Option.some.injEq] at hi; subst hi; exact .inr (.inr ⟨isT_gt, rfl⟩)
    | succ i => simp at hi
  have hl := partsS_dots s
  rw [matchB, h, hr, hp]
  cases hq : partsS s with
  | nil => rw [hq] at hl; simp at hl
  | cons x l => simp [matchL, isT_gt]
/-- So many stars, each with its dot. -/
def starN : Nat → ByteArray
  | 0 => { data := #[] }
  | d + 1 => starN d ++ { data := #[42, 46] }
theorem ba_nil (b : ByteArray) : ({ data := #[] } : ByteArray) ++ b = b := ba_ext (by rw [app_l]; rfl)
theorem starN_front : ∀ (d : Nat) (t : ByteArray), starN (d + 1) ++ t = starT ++ (dotT ++ (starN d ++ t))
  | 0, t => ba_ext (by simp only [starN, app_l]; rfl)
  | d + 1, t => by
    have e : starN (d + 1 + 1) ++ t = starN (d + 1) ++ (({ data := #[42, 46] } : ByteArray) ++ t) := ba_ext (by simp only [starN, app_l, List.append_assoc])
    have e2 : starN (d + 1) ++ t = starN d ++ (({ data := #[42, 46] } : ByteArray) ++ t) := ba_ext (by simp only [starN, app_l, List.append_assoc])
    rw [e, starN_front d, e2]
theorem star_dot : noDot starT := by
  intro x hx
  have : x = 42 := by simpa [starT] using hx
  subst this; decide
theorem parts_stars {t : ByteArray} {l : List ByteArray} (ht : partsS t = l) : ∀ d, partsS (starN d ++ t) = List.replicate d starT ++ l
  | 0 => by rw [starN, ba_nil, ht]; rfl
  | d + 1 => by rw [starN_front, parts_cons star_dot, parts_stars ht d]; rfl
theorem starN_size (d : Nat) : (starN d).size = 2 * d := by
  induction d with
  | zero => rfl
  | succ d ih => rw [starN, ByteArray.size_append, ih]; show 2 * d + 2 = _; omega
theorem match_stars : ∀ (ps : List ByteArray), matchL ps (List.replicate ps.length starT) = true
  | [] => rfl
  | x :: ps => by simp [List.replicate_succ, matchL, isT_star, isT_star62, match_stars ps]
theorem match_more : ∀ (ps : List ByteArray), matchL ps (List.replicate (ps.length + 1) starT) = false
  | [] => rfl
  | x :: ps => by simp only [List.length_cons, List.replicate_succ (n := ps.length + 1), matchL, isT_star, isT_star62, match_more ps, Bool.false_or, Bool.and_false]
def twoT : ByteArray := { data := #[42, 46, 42] }
theorem parts_star : partsS starT = [starT] := parts_one star_dot
theorem parts_two : partsS twoT = [starT, starT] := by
  have e : twoT = starT ++ (dotT ++ starT) := rfl
  rw [e, parts_cons star_dot, parts_star]
theorem m_stars {s : ByteArray} (h : rightB false s = true) : matchB s (starN (dotsN s s.size) ++ starT) = true := by
  obtain ⟨h1, h2, h3⟩ := right_parts h
  have hl := partsS_dots s
  have hs := partsS_sizes s
  have hg := sizes_ge (ps := partsS s) fun p hp => plain_size (h3 p hp)
  have hp := parts_stars parts_star (dotsN s s.size)
  have hp' : partsS (starN (dotsN s s.size) ++ starT) = List.replicate (partsS s).length starT := by
    rw [hp, hl, List.replicate_succ']
  have hz : (starN (dotsN s s.size) ++ starT).size = 2 * dotsN s s.size + 1 := by rw [ByteArray.size_append, starN_size]; rfl
  have hr : rightB true (starN (dotsN s s.size) ++ starT) = true := right_of_all (by omega) (by omega) fun i p hi => by
    rw [hp'] at hi
    have := List.eq_of_mem_replicate (List.mem_of_getElem? hi)
    subst this; exact .inr (.inl isT_star)
  rw [matchB, h, hr, hp', match_stars]; rfl
theorem m_more {s : ByteArray} (h : rightB false s = true) : matchB s (starN (dotsN s s.size) ++ twoT) = false := by
  have hl := partsS_dots s
  have hp := parts_stars parts_two (dotsN s s.size)
  have hp' : partsS (starN (dotsN s s.size) ++ twoT) = List.replicate ((partsS s).length + 1) starT := by
    rw [hp, hl, List.replicate_succ', List.replicate_succ', List.append_assoc]; rfl
  rw [matchB, hp', match_more]; simp
end Go.Proofs.YtffpfjnakhpheaaDoor
