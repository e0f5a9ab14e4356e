/- Names: the parts of a text, as strings.Split and as spec.l11Parts lay them. -/
import Derived.Test.YtffpfjnakhpheaaDoorFnC
import Derived.Test.YtffpfjnakhpheaaDoorGlString
import Derived.Test.YtffpfjnakhpheaaDoorBvLs
import Derived.Test.YtffpfjnakhpheaaDoorBvM5
import Derived.Test.YtffpfjnakhpheaaDoorShelfS
import Derived.Lib.SplitLaws
import Derived.Lib.IndexBytes
namespace Go.Proofs.YtffpfjnakhpheaaDoor
open Go Go.RowKit Go.Bv
set_option linter.unusedSimpArgs false
set_option linter.unusedVariables false
set_option maxRecDepth 4000
set_option maxHeartbeats 1000000

theorem ix_none : ∀ {l : List UInt8} {c : UInt8}, Lib.indexByte l c = -1 → ∀ j : Nat, l[j]? ≠ some c
  | [], _, _, j => by simp
  | b :: l, c, h, j => by
    unfold Lib.indexByte at h
    split at h
    · simp at h
    · rename_i hb
      split at h
      · rename_i h2
        cases j with
        | zero => simp only [List.getElem?_cons_zero, ne_eq, Option.some.injEq]; intro e; exact hb (beq_iff_eq.2 e)
        | succ j => rw [List.getElem?_cons_succ]; exact ix_none (beq_iff_eq.1 h2) j
      · have := Lib.indexByte_ge l c; omega
theorem ix_some : ∀ {l : List UInt8} {c : UInt8} {i : Nat}, Lib.indexByte l c = i → l[i]? = some c ∧ ∀ j, j < i → l[j]? ≠ some c
  | [], _, i, h => by simp [Lib.indexByte] at h
  | b :: l, c, i, h => by
    unfold Lib.indexByte at h
    split at h
    · rename_i hb
      have : i = 0 := by omega
      subst this
      exact ⟨by rw [List.getElem?_cons_zero, beq_iff_eq.1 hb], fun j hj => by omega⟩
    · rename_i hb
      split at h
      · omega
      · have hge := Lib.indexByte_ge l c
        rename_i h9
        rw [beq_iff_eq] at h9
        obtain ⟨k, rfl⟩ : ∃ k, i = k + 1 := ⟨i - 1, by omega⟩
        obtain ⟨h1, h2⟩ := ix_some (l := l) (c := c) (i := k) (by omega)
        refine ⟨by rw [List.getElem?_cons_succ]; exact h1, fun j hj => ?_⟩
        cases j with
        | zero => simp only [List.getElem?_cons_zero, ne_eq, Option.some.injEq]; intro e; exact hb (beq_iff_eq.2 e)
        | succ j => rw [List.getElem?_cons_succ]; exact h2 j (by omega)

def dotT : ByteArray := ⟨#[46]⟩
def dotAt (s : ByteArray) (k : Nat) : Bool := s.data.toList[k]? == some 46
/-- The parts that end ahead of k, and where the next one begins. -/
def partsN (s : ByteArray) : Nat → List ByteArray × Nat
  | 0 => ([], 0)
  | k + 1 => if k = s.size ∨ dotAt s k = true then ((partsN s k).1 ++ [s.extract (partsN s k).2 k], k + 1) else partsN s k
def partsS (s : ByteArray) : List ByteArray := (partsN s (s.size + 1)).1
theorem ext_l (s : ByteArray) (a b : Nat) : (s.extract a b).data.toList = (s.data.toList.drop a).take (b - a) := by
  simp [ByteArray.data_extract, Array.toList_extract, List.extract_eq_take_drop]
theorem sz_l (s : ByteArray) : s.data.toList.length = s.size := Array.length_toList
theorem ba_ext {s t : ByteArray} (h : s.data.toList = t.data.toList) : s = t := ByteArray.ext (Array.ext' h)
theorem partsN_skip {s : ByteArray} {out : List ByteArray} {a : Nat} (h : partsN s a = (out, a)) : ∀ n, a + n ≤ s.size → (∀ j, j < n → dotAt s (a + j) = false) → partsN s (a + n) = (out, a)
  | 0, _, _ => h
  | n + 1, hn, hd => by
    have ih := partsN_skip h n (by omega) (fun j hj => hd j (by omega))
    show partsN s (a + n + 1) = _
    rw [partsN, if_neg (by rw [hd n (by omega)]; simp; omega), ih]
theorem parts_split (s : ByteArray) : ∀ (n : Nat) (a : Nat) (out : List ByteArray), a ≤ s.size → s.size - a ≤ n → partsN s a = (out, a) →
    partsS s = out ++ Lib.splitB dotT 0 (Lib.countB (s.extract a s.size) dotT) (s.extract a s.size)
  | n, a, out, ha, hn, h => by
    have hl : (s.extract a s.size).data.toList = s.data.toList.drop a := by rw [ext_l, List.take_of_length_le]; rw [List.length_drop, sz_l]; omega
    have hix : Lib.indexB (s.extract a s.size) dotT = Lib.indexByte (s.data.toList.drop a) 46 := by
      show Lib.index _ [46] = _
      rw [hl, Lib.index_one]
    have hat : ∀ j, (s.data.toList.drop a)[j]? = s.data.toList[a + j]? := fun j => by rw [List.getElem?_drop]
    rcases Lib.indexB_cases (s.extract a s.size) dotT with hm | ⟨i, hi, hle⟩
    · have hno := ix_none (hix ▸ hm)
      have hd : ∀ j, dotAt s (a + j) = false := fun j => by
        have := hno j
        rw [hat] at this
        simpa [dotAt] using this
      have := partsN_skip h (s.size - a) (by omega) (fun j _ => hd j)
      rw [show a + (s.size - a) = s.size by omega] at this
      rw [partsS, partsN, if_pos (.inl rfl), this, Lib.countB_miss _ _ hm, Lib.splitB_zero]
    · obtain ⟨h1, h2⟩ := ix_some (hix ▸ hi)
      rw [hat] at h1
      have hil : a + i < s.size := by
        have := (List.getElem?_eq_some_iff.1 h1).1
        rwa [sz_l] at this
      have hd : ∀ j, j < i → dotAt s (a + j) = false := fun j hj => by
        have := h2 j hj
        rw [hat] at this
        simpa [dotAt] using this
      have hs := partsN_skip h i (by omega) hd
      have hn1 : partsN s (a + i + 1) = (out ++ [s.extract a (a + i)], a + i + 1) := by
        rw [partsN, if_pos (.inr (by simp [dotAt, h1])), hs]
      have e1 : (s.extract a s.size).extract (i + dotT.size) (s.extract a s.size).size = s.extract (a + i + 1) s.size := ba_ext (by
        rw [ext_l, hl, ext_l, ← sz_l (s.extract a s.size), hl, List.drop_drop, List.length_drop, sz_l]
        show List.take (s.size - a - (i + 1)) (List.drop (a + (i + 1)) _) = _
        rw [show s.size - a - (i + 1) = s.size - (a + i + 1) by omega, show a + (i + 1) = a + i + 1 by omega])
      have e2 : (s.extract a s.size).extract 0 (i + 0) = s.extract a (a + i) := ba_ext (by
        rw [ext_l, hl, ext_l, List.drop_zero, Nat.sub_zero, Nat.add_zero, Nat.add_sub_cancel_left])
      match n with
      | 0 => exact absurd hil (by omega)
      | n + 1 =>
        have ih := parts_split s n (a + i + 1) _ (by omega) (by omega) hn1
        rw [ih, Lib.countB_hit _ _ i (by decide) hi, Nat.add_comm 1, Lib.splitB_hit _ _ _ _ i hi, e1, e2, List.append_assoc]
        rfl
theorem split_parts (s : ByteArray) : Lib.splitB dotT 0 (Lib.countB s dotT) s = partsS s := by
  have := parts_split s s.size 0 [] (by omega) (by omega) rfl
  rw [this, List.nil_append]
  have e : s.extract 0 s.size = s := ba_ext (by rw [ext_l, List.drop_zero, Nat.sub_zero, List.take_of_length_le (by rw [sz_l]; omega)])
  rw [e]
theorem partsS_len (s : ByteArray) : (partsS s).length = Lib.countB s dotT + 1 := by
  rw [← split_parts]; exact Lib.splitB_all dotT (by decide) 0 _ s rfl
theorem partsS_le (s : ByteArray) : (partsS s).length ≤ s.size + 1 := by
  have := Lib.countB_le dotT (by decide) s.size s (Nat.le_refl _)
  rw [partsS_len]; omega
theorem partsN_size (s : ByteArray) : ∀ k, ∀ p ∈ (partsN s k).1, p.size ≤ s.size
  | 0 => by simp [partsN]
  | k + 1 => by
    intro p hp
    rw [partsN] at hp
    split at hp
    · rcases List.mem_append.1 hp with h | h
      · exact partsN_size s k p h
      · rw [List.mem_singleton.1 h, ByteArray.size_extract]; omega
    · exact partsN_size s k p hp
theorem parts_size {s p : ByteArray} (hp : p ∈ partsS s) (hs : s.size < 4611686018427387904) : p.size < 4611686018427387904 := Nat.lt_of_le_of_lt (partsN_size s _ p hp) hs
theorem c_strings_Split (s : ByteArray) (hs : s.size < 4294967281) : Sound P 17 [.str s, .str ⟨#[46]⟩] (.lst true 1 ((partsS s).map encString)) := by
  refine sound_texts (ws := partsS s) (t := 9) (fun e => absurd (partsS_len s) (by rw [e, List.length_nil]; omega)) (by have := partsS_le s; have : (4294967282 : Nat) ≤ maxLen := (by decide); omega) fun w Z0 cs hcs hw => ?_
  obtain ⟨x, y, rfl, h1, h2⟩ := ers_two hcs
  cases er_str h1
  cases er_str h2
  obtain ⟨m, hm⟩ := hw.maxLen (g := 0) (by kernel_rfl)
  have := Tryd.strings_Split s dotT m w hs hm (by decide)
  rw [split_parts, ← partsS_len] at this
  exact this
noncomputable abbrev ic_strings_Split := Con.mk (P := P) (f := 17) Tryd.call17 @c_strings_Split
attribute [instance] ic_strings_Split
end Go.Proofs.YtffpfjnakhpheaaDoor
