/- make of a slice. Generic: no program. -/
import Derived.Test.YtjmodjanaeoiiaaBvR
namespace Go.Bv
open Go Go.RowKit
set_option linter.unusedSimpArgs false
set_option linter.unusedVariables false
section
variable {K : Nat → Prop} {w0 : World} {Z : Nat → Prop} {Sc L : List CV} {a : Act} {w : World} {P : Program} {Γ : Tab}

theorem flats_rep (c : CV) : ∀ (n j : Nat) (v : Value), (flats (List.replicate n c))[j]? = some v → (flat c)[j % (flat c).length]? = some v ∧ j < n * (flat c).length
  | 0, j, v, h => by simp [flats] at h
  | n + 1, j, v, h => by
    simp only [List.replicate_succ, flats] at h
    by_cases hj : j < (flat c).length
    · rw [List.getElem?_append_left hj] at h
      rw [Nat.mod_eq_of_lt hj]
      refine ⟨h, ?_⟩
      rw [Nat.add_mul]; omega
    · rw [List.getElem?_append_right (by omega)] at h
      obtain ⟨h1, h2⟩ := flats_rep c n _ v h
      rw [Nat.mod_eq_sub_mod (by omega)]
      refine ⟨h1, ?_⟩
      rw [Nat.add_mul]; omega

theorem ers_rep (n : Nat) (c : CV) : ers (List.replicate n c) = List.replicate n (er c) := by simp [ers_eq]
theorem fps_rep (n : Nat) (c : CV) (h : fp c = []) : fps (List.replicate n c) = [] := by
  induction n with
  | zero => rfl
  | succ n ih => simp [List.replicate_succ, fps, h, ih]

theorem make_sound (hT : TabOk P Γ) (h : Good K w0 Z Sc L a w) {o : Oper} {T E : Nat} {x y : Operand} (ho : o.op = .makeSlice T x y) (hk : Γ.kind T = .sl E) {z : AV} (hz : Γ.zero E = some z) (hE : Γ.kind E ≠ .no)
    {k1 k2 : IntKind} {n m : Nat} (hx : ard (ers Sc) x = some (.int k1 (n : Int))) (hy : ard (ers Sc) y = some (.int k2 (m : Int))) (hnm : n ≤ m) (hE0 : Γ.size E ≠ 0) (hb : Γ.bytes E * m ≤ 281474976710656) (hm : m ≤ maxLen) :
    ES P K w0 Z L a w o (aput o.dst (.lst true (Γ.size E) (List.replicate n z)) (ers Sc)) := by
  obtain ⟨hp, i, v, h1, h2, h3, h4⟩ := hT.zero E z hz
  obtain ⟨i', h1', hsz, hby⟩ := hT.size E hE
  rw [h1] at h1'; cases h1'
  obtain ⟨c, e1, e2, e3, e4, e5⟩ := zcells_ok z hp
  obtain ⟨cx, ex, vx, _⟩ := h.rd hx
  obtain ⟨cy, ey, vy, _⟩ := h.rd hy
  have hvx : a.eval x = .int k1 n := by rw [← vx]; cases cx <;> simp [er] at ex; obtain ⟨rfl, rfl⟩ := ex; rfl
  have hvy : a.eval y = .int k2 m := by rw [← vy]; cases cy <;> simp [er] at ey; obtain ⟨rfl, rfl⟩ := ey; rfl
  have hcl : (flat c).length = i.size := by rw [e2, ← h3, Array.length_toList, h4]
  have hm63 : (m : Int) ≤ 9223372036854775807 := by unfold maxLen at hm; omega
  have hrun := run_make (P := P) w T E i v (hT.sl T E hk) h1 h2 k1 k2 n m (by omega) (by omega) (by rw [hby]; have := Int.ofNat_le.2 hb; rw [Int.natCast_mul] at this; exact this) hm63
  simp only [Int.toNat_natCast] at hrun
  have hG := (h.add (c := .bool false) (by simp [Ok]) (by simp [fp]) (by simp [NR, Pl])).block (M := [.bool false]) (c := .lst true i.size (some ⟨w.heap.size, 0, none⟩) m (List.replicate n c)) (o := .cells (madeCells v.cells (m * i.size)) E) ?_ ?_ ?_
  · refine es_value (w' := w.alloc (.cells (madeCells v.cells (m * i.size)) E)) ?_ ?_ (hG.put o.dst)
    · unfold execOp
      simp only [ho, hvx, hvy, Sem.run_bind, hrun, Result.andThen_ok]
      simp [val, val1, flat]
    · rw [er_cput]; simp [er, ers_rep, e1, hsz]
  · simp only [fp, fps_rep n c e4, List.append_nil, fps]
    refine Fits.of_sublist ?_
    split <;> simp
  · simp only [Ok]
    refine ⟨⟨by simpa using hnm, ?_, ?_⟩, fun u hu => ?_, fun h0 => by simp at h0, (okL_iff _).2 fun u hu => ?_⟩
    · refine .inr ⟨_, rfl, rfl, ?_, by simp⟩
      rw [cellsAt_iff rfl]
      intro j u hj
      obtain ⟨q1, q2⟩ := flats_rep c n j u hj
      rw [hcl] at q1 q2
      have hjm : j < m * i.size := Nat.lt_of_lt_of_le q2 (Nat.mul_le_mul_right _ hnm)
      simp only [World.cell?, heap_alloc_new, Nat.zero_add, Option.isSome_none, Bool.false_eq_true, if_false]
      rw [e2, ← h3] at q1
      have hs0 : j % i.size < v.cells.size := by
        have := (List.getElem?_eq_some_iff.1 q1).1
        simpa using this
      rw [Array.getElem?_toList] at q1
      simp only [madeCells, h4, Array.getElem?_map]
      have hr : (Array.range (m * i.size))[j]? = some j := by simp [hjm]
      rw [hr]
      simp only [Option.map_some]
      rw [Array.getElem?_eq_getElem hs0] at q1
      rw [← q1, getElem!_pos v.cells _ hs0]
    · intro _ hc0
      refine ⟨by rw [hsz]; exact hE0, _, _, _, rfl, rfl, heap_alloc_new w _, hm, ?_⟩
      simp [size_madeCells]
    · rw [List.eq_of_mem_replicate hu]; exact hcl
    · rw [List.eq_of_mem_replicate hu]; exact e5 _ _
  · simp only [NR, Pl]
    rw [plL_iff]
    intro u hu
    rw [List.eq_of_mem_replicate hu]; exact e3
end
end Go.Bv
