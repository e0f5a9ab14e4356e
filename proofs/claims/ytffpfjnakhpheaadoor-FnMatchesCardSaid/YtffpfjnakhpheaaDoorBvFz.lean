/- A list literal of plain values whose memory never turns again. Generic: no program. -/
import Derived.Test.YtffpfjnakhpheaaDoorBvM5
namespace Go.Bv
open Go Go.RowKit
set_option linter.unusedSimpArgs false
set_option linter.unusedVariables false
section
variable {K : Nat → Prop} {w0 : World} {Z : Nat → Prop} {Sc L : List CV} {a : Act} {w : World} {P : Program} {Γ : Tab}
/-- One more block never turns. -/
theorem Good.more (h : Good K w0 Z Sc L a w) {b : Nat} (hb : b < w.heap.size) (hn : b ∉ fps (Sc ++ L)) : Good K w0 (fun k => Z k ∨ k = b) Sc L a w :=
  { h with
    ok := OkL.congr (fun _ hk => .inl hk) (fun _ _ => rfl) _ (fun _ _ => rfl) h.ok
    apart := fun k hk hz => by
      rcases hz with hz | rfl
      · exact h.apart k hk hz
      · exact hn hk
    lt := fun k hk => by
      rcases hk with hk | hk | rfl
      · exact h.lt k (.inl hk)
      · exact h.lt k (.inr hk)
      · exact hb }
theorem bsliceF_AO (hT : TabOk P Γ) {S : List AV} {o : Oper} {T E n : Nat} {parts : Array (Nat × Operand)} (ho : o.op = .buildSlice T n parts) (hk : Γ.kind T = .sl E) (hE : Γ.kind E ≠ .no) {z : AV} (hz : Γ.zero E = some z)
    (hs0 : Γ.size E ≠ 0) (hn : n * Γ.size E ≤ 16777216) {vs : List AV} (hvs : ards S (parts.toList.map (·.2)) = some vs) (hlf : leafAs vs = true) (hc : bldChk (List.replicate n z) ((parts.toList.map (·.1)).zip vs) = true) :
    AO P o S (aput o.dst (.lst false (Γ.size E) (asetAll (List.replicate n z) ((parts.toList.map (·.1)).zip vs))) S) := ao_of fun K w0 Z0 a w hGK ⟨Z, Sc, z1, z2, hSc, hG⟩ Q => by
  subst hSc
  obtain ⟨ys, rfl, hv, hrd⟩ := ards_sound hG _ _ hvs
  obtain ⟨hyk, hfy, hpl⟩ := leafs_ok (w := w) (Z := Z) ys hlf
  obtain ⟨hz1, i, v, h1, h2, h3, h4⟩ := hT.zero E _ hz
  obtain ⟨i', h1', hsz, hby⟩ := hT.size E hE
  rw [h1] at h1'; cases h1'
  obtain ⟨c0, q1, q2, q3, q4, q5⟩ := zcells_ok _ hz1
  have hu := hT.sl T E hk
  have hcl : (flat c0).length = i.size := by rw [q2, ← h3, Array.length_toList, h4]
  have hzl : ers (List.replicate n c0) = List.replicate n z := by rw [ers_rep, q1]
  have hrep : OkL w Z (List.replicate n c0) := (okL_iff _).2 fun u hu => by rw [List.eq_of_mem_replicate hu]; exact q5 _ _
  have hplr : PlL (List.replicate n c0) := (plL_iff _).2 fun u hu => by rw [List.eq_of_mem_replicate hu]; exact q3
  obtain ⟨g1, g2, g3, g4, g5⟩ := setAll_good (Z := Z) (w' := w) hzl (fps_rep n c0 q4) hplr (fun w Z => (okL_iff _).2 fun u hu => by rw [List.eq_of_mem_replicate hu]; exact q5 _ _) hpl (parts.toList.map (·.1)) hyk hc
  obtain ⟨cs, hcs⟩ : ∃ cs, cs = setAll (List.replicate n c0) ((parts.toList.map (·.1)).zip ys) := ⟨_, rfl⟩
  have hlen : cs.length = n := by rw [hcs, setAll_len]; simp
  have hlens : (List.map (fun x => (flat x).length) (List.replicate n c0)) = List.replicate n i.size := by simp [hcl]
  have hall : ∀ u ∈ cs, (flat u).length = i.size := fun u hu => by
    rw [hcs] at hu
    rcases mem_setAll _ _ hu with hu | ⟨p, hp, rfl⟩
    · rw [List.eq_of_mem_replicate hu]; exact hcl
    · have := (g5 p hp).2
      rw [hlens, List.getElem?_replicate] at this
      split at this
      · simpa using this.symm
      · cases this
  have hcells : ∀ j u, (flats cs)[j]? = some u → (flats cs).toArray[j]? = some u := fun j u hj => by rw [List.getElem?_toArray]; exact hj
  have hfl : (flats cs).length = n * i.size := by
    have : ∀ us : List CV, (∀ u ∈ us, (flat u).length = i.size) → (flats us).length = us.length * i.size := by
      intro us
      induction us with
      | nil => intro _; simp [flats]
      | cons u us ih => intro hu; simp only [flats, List.length_append, List.length_cons, hu u (by simp), ih (fun q hq => hu q (by simp [hq]))]; rw [Nat.add_mul]; omega
    rw [this cs hall, hlen]
  have hrun : (Instr.buildSlice T n (parts.map fun p => (p.1, a.eval p.2))).run P w = .ok (.slice (some ⟨w.heap.size, 0, none⟩) n n) (w.alloc (.cells (flats cs).toArray E)) := by
    have hps : (parts.map fun p => (p.1, a.eval p.2)).toList = (((parts.toList.map (·.1)).zip ys).map fun p => (p.1, val p.2)) := by rw [Array.toList_map, zip_parts parts.toList ys hv]
    by_cases hn0 : n = 0
    · subst hn0
      have hnil : ((parts.toList.map (·.1)).zip ys) = [] := by
        cases hq : (parts.toList.map (·.1)).zip ys with
        | nil => rfl
        | cons p ps =>
          have := (g5 p (by rw [hq]; simp)).2
          simp at this
      rw [hnil, List.map_nil] at hps
      have hcsn : cs = [] := List.eq_nil_of_length_eq_zero hlen
      subst hcsn
      have hps' : parts.toList.map (fun p => (p.1, a.eval p.2)) = [] := by rw [← Array.toList_map]; exact hps
      have hr0 : Array.range 0 = #[] := rfl
      simp [Instr.buildSlice, run_underlying hu, sizeOf, typeInfo, h1, hps', hr0, Instr.fill, run_newRow, flats]
    · have hpos : ¬ n * i.size = 0 := by rw [hsz]; exact Nat.mul_ne_zero hn0 hs0
      refine run_buildSlice (P := P) w T E n _ _ i v hu h1 h2 (by rw [hsz]; omega) hpos ?_
      rw [hps]
      have hz0 : (Array.range (n * i.size)).map (v.cells[· % v.cells.size]!) = (flats (List.replicate n c0)).toArray := by
        apply Array.ext'
        apply List.ext_getElem?
        intro j
        have hfr : (flats (List.replicate n c0)).length = n * i.size := by
          rw [flats_len]; simp [hcl]
        by_cases hj : j < n * i.size
        · have hj2 : (flats (List.replicate n c0))[j]? = some ((flats (List.replicate n c0))[j]'(by omega)) := List.getElem?_eq_getElem _
          obtain ⟨r1, _⟩ := flats_rep c0 n j _ hj2
          rw [hcl] at r1
          have hs0' : j % i.size < v.cells.size := by rw [h4]; exact Nat.mod_lt _ (by omega)
          rw [q2, ← h3, Array.getElem?_toList, Array.getElem?_eq_getElem hs0'] at r1
          have hr : (Array.range (n * i.size))[j]? = some j := by simp [hj]
          simp only [Array.getElem?_toList, Array.getElem?_map, hr, Option.map_some, h4]
          rw [getElem!_pos v.cells _ hs0', hj2]
          exact r1
        · rw [List.getElem?_eq_none (by simp; omega), List.getElem?_eq_none (by simp; omega)]
      rw [hz0, hcs]
      refine fill_flats (List.replicate n i.size) (fun j m hj => ?_) _ _ hlens (fun p hp => by rw [← hlens]; exact g5 p hp)
      rw [List.getElem?_replicate] at hj
      split at hj
      · rename_i hjn
        simp only [Option.some.injEq] at hj
        subst hj
        rw [List.take_replicate, List.sum_replicate_nat, Nat.min_eq_left (Nat.le_of_lt hjn)]
      · cases hj
  rw [← hcs] at g1 g2 g3 g4
  have hfc : fps cs = [] := by
    have := g2.sub
    rw [hfy] at this
    exact List.eq_nil_iff_forall_not_mem.2 fun b hb => by simpa using this b hb
  have hnewb := heap_alloc_new w (.cells (flats cs).toArray E)
  have hold : ∀ k, k < w.heap.size → (w.alloc (.cells (flats cs).toArray E)).heap[k]? = w.heap[k]? := fun k hk => heap_alloc_old w _ k hk
  have hsz2 : (w.alloc (.cells (flats cs).toArray E)).heap.size = w.heap.size + 1 := size_alloc _ _
  have hA := (hG.alloc (.cells (flats cs).toArray E)).more (b := w.heap.size) (by rw [hsz2]; omega) (fun hm => by have := hG.lt _ (.inl hm); omega)
  have hok : Ok (w.alloc (.cells (flats cs).toArray E)) (fun k => Z k ∨ k = w.heap.size) (.lst false i.size (some ⟨w.heap.size, 0, none⟩) n cs) := by
    simp only [Ok]
    refine ⟨⟨by omega, ?_, fun h => by cases h⟩, hall, fun _ => hfc, ?_⟩
    · refine .inr ⟨_, rfl, rfl, ?_, fun _ => .inr rfl⟩
      rw [cellsAt_iff rfl]
      intro j u hj
      simp only [World.cell?, hnewb, Option.isSome_none, Bool.false_eq_true, if_false, Nat.zero_add]
      exact hcells j u hj
    · exact OkL.congr (fun _ h => .inl h) (fun k hk => hold k (hG.lt k (.inr hk))) _ (fun k hk => by rw [hfc] at hk; cases hk) g1
  have hz2 : ∀ b, (Z b ∨ b = w.heap.size) → Z0 b ∨ w0.heap.size ≤ b := fun b hb => by
    rcases hb with hb | rfl
    · exact z2 b hb
    · exact .inr hG.grew
  have hG2 := (hA.add hok (by simp [fp, hfc]) (by simpa only [NR, Pl] using g3)).put o.dst
  refine Oper.wp_mono (fun a' w' ⟨Sc', e, hG'⟩ => ⟨fun k => Z k ∨ k = w.heap.size, Sc', fun b hb => .inl (z1 b hb), hz2, e, hG'⟩)
    (es_value (v := .slice (some ⟨w.heap.size, 0, none⟩) n n) (w' := w.alloc (.cells (flats cs).toArray E)) ?_ (Sc' := cput o.dst (.lst false i.size (some ⟨w.heap.size, 0, none⟩) n cs) Sc) (S2 := aput o.dst (.lst false (Γ.size E) (asetAll (List.replicate n z) ((parts.toList.map (·.1)).zip (ers ys)))) (ers Sc)) ?_ ?_ Q)
  · unfold execOp
    simp only [ho, Sem.run_bind]
    first
    | rw [hrun]; rfl
    | (simp only [hrun, Result.andThen_ok]; rfl)
  · rw [er_cput]; simp [er, g4, hsz]
  · simpa [val, val1, flat, hlen] using hG2
variable {S S' : List AV} {ops : Array Oper} {l : List Oper} {o : Oper} {N : List AV → Prop}
theorem i_fz (hT : TabOk P Γ) {T E n : Nat} {parts : Array (Nat × Operand)} {z : AV} {vs : List AV} (hg : gchk ops S o = some true := by first | exact gchk_none rfl | (simp only [go_sem, *]; first | done | fail) | fail) (ho : o.op = .buildSlice T n parts := by rfl) (hk : Γ.kind T = .sl E := by simp only [go_sem]; first | done | with_reducible rfl | fail) (hE : Γ.kind E ≠ .no := by simp only [go_sem]; first | done | fail)
    (hz : Γ.zero E = some z := by simp only [go_sem]; first | done | with_reducible rfl | fail) (hs0 : Γ.size E ≠ 0 := by simp only [go_sem]; first | done | fail) (hn : n * Γ.size E ≤ 16777216 := by simp only [go_sem]; first | done | omega) (hvs : ards S (parts.toList.map (·.2)) = some vs := by simp only [go_sem, *]; first | done | with_reducible rfl | fail)
    (hlf : leafAs vs = true := by simp only [go_sem, *]; first | done | fail) (hc : bldChk (List.replicate n z) ((parts.toList.map (·.1)).zip vs) = true := by simp only [go_sem]; first | done | fail)
    (hp : aput o.dst (.lst false (Γ.size E) (asetAll (List.replicate n z) ((parts.toList.map (·.1)).zip vs))) S = S' := by simp only [go_sem]; first | done | with_reducible rfl | fail) :
    AL P false ops l S' N → AL P false ops (o :: l) S N := by
  subst hp; exact al_op hg (bsliceF_AO hT ho hk hE hz hs0 hn hvs hlf hc)
end
end Go.Bv
