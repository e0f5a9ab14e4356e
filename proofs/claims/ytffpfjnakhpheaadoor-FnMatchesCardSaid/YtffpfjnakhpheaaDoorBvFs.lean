/- What a function that was handed nothing of its own returns, may be taken as frozen. Generic: no program. -/
import Derived.Test.YtffpfjnakhpheaaDoorBvFr
import Derived.Test.YtffpfjnakhpheaaDoorBvFz
import Derived.Test.YtffpfjnakhpheaaDoorBvSe
namespace Go.Bv
open Go Go.RowKit
set_option linter.unusedSimpArgs false
set_option linter.unusedVariables false
theorem val1_frz {x : CV} : val1 (cfrz x) = val1 x := by
  cases x <;> simp only [cfrz, val1, flat, cfrzs_len, flats_frz]
theorem val1_frzs (xs : List CV) : (cfrzs xs).map val1 = xs.map val1 := by
  induction xs with
  | nil => rfl
  | cons x xs ih => simp only [cfrzs, List.map_cons, val1_frz, ih]
theorem cfrz_not_tup {x : CV} (h : ∀ ys, x ≠ .tup ys) : ∀ ys, cfrz x ≠ .tup ys := by
  cases x <;> simp_all [cfrz]
/-- A result, frozen. -/
theorem sound_frz {P : Program} {f : Nat} {args : List AV} {r : AV} (hno : noOwnAs args = true) (hr : plA r = true) (h : Sound P f args r) : Sound P f args (frz r) := by
  intro w Z0 cs hcs hok hnd hap hlt hpl hgw
  subst hcs
  have hfp0 : fps cs = [] := NoOwnL.fp cs (noOwnAs_er cs hno) hok
  refine Calls.mono (h w Z0 cs rfl hok hnd hap hlt hpl hgw) fun e w' ⟨c, he, hc, hR⟩ => ?_
  subst hc
  have hp := pl_er c hr
  obtain ⟨⟨Z', z1, z2, hk, hapc⟩, hnr, hndc, hown, hsame, hgrew, hos, htape, hout⟩ := hR
  rw [hfp0] at hown hsame ⊢
  have hf := fp_frz (w := w') (Z := Z') c hp hk
  refine ⟨cfrz c, ?_, er_frz c, ⟨⟨fun b => Z' b ∨ b ∈ fp c, fun b hb => .inl (z1 b hb), fun b hb => ?_, ok_frz (fun b hb => .inl hb) c hp hk fun b hb => .inr hb, by rw [hf]; simp⟩, (pl_frz c hp).nr, by rw [hf]; simp, by rw [hf]; simp, hsame, hgrew, hos, htape, hout⟩⟩
  · rw [he, val_of_val1 hp.not_tup, val_of_val1 (cfrz_not_tup hp.not_tup), val1_frz]
  · rcases hb with hb | hb
    · exact z2 b hb
    · have := hown b hb
      refine ⟨.inr ?_, this.2⟩
      rcases this.1 with h1 | h1
      · cases h1
      · exact h1
theorem sound_frzT {P : Program} {f : Nat} {args vs : List AV} (hno : noOwnAs args = true) (hr : plAs vs = true) (h : Sound P f args (.tup vs)) : Sound P f args (.tup (frzs vs)) := by
  intro w Z0 cs hcs hok hnd hap hlt hpl hgw
  subst hcs
  have hfp0 : fps cs = [] := NoOwnL.fp cs (noOwnAs_er cs hno) hok
  refine Calls.mono (h w Z0 cs rfl hok hnd hap hlt hpl hgw) fun e w' ⟨c, he, hc, hR⟩ => ?_
  obtain ⟨ys, rfl⟩ : ∃ ys, c = .tup ys := by cases c <;> simp [er] at hc; exact ⟨_, rfl⟩
  simp only [er, AV.tup.injEq] at hc
  subst hc
  have hp := plL_er ys hr
  obtain ⟨⟨Z', z1, z2, hk, hapc⟩, hnr, hndc, hown, hsame, hgrew, hos, htape, hout⟩ := hR
  rw [hfp0] at hown hsame ⊢
  simp only [Ok] at hk
  simp only [fp] at hapc hndc hown
  have hf := fps_frz (w := w') (Z := Z') ys hp hk
  refine ⟨.tup (cfrzs ys), ?_, by simp only [er, ers_frz], ⟨⟨fun b => Z' b ∨ b ∈ fps ys, fun b hb => .inl (z1 b hb), fun b hb => ?_, ?_, by simp only [fp, hf]; simp⟩, ?_, by simp only [fp, hf]; simp, by simp only [fp, hf]; simp, hsame, hgrew, hos, htape, hout⟩⟩
  · rw [he]; simp only [val, val1_frzs]
  · rcases hb with hb | hb
    · exact z2 b hb
    · have := hown b hb
      refine ⟨.inr ?_, this.2⟩
      rcases this.1 with h1 | h1
      · cases h1
      · exact h1
  · simp only [Ok]
    exact okL_frz (fun b hb => .inl hb) ys hp hk fun b hb => .inr hb
  · simp only [NR]
    intro x hx
    exact .inr ((plL_iff _).1 (plL_frz ys hp) x hx)
section
variable {P : Program} {Γ : Tab} {S S' : List AV} {ops : Array Oper} {o : Oper}
theorem as_fz (hT : TabOk P Γ) {T E n : Nat} {parts : Array (Nat × Operand)} {z : AV} {vs : List AV} (hg : gchk ops S o = some true := by exact gchk_none rfl) (ho : o.op = .buildSlice T n parts := by rfl) (hk : Γ.kind T = .sl E := by simp only [go_sem]; first | done | with_reducible rfl | fail) (hE : Γ.kind E ≠ .no := by simp only [go_sem]; first | done | fail)
    (hz : Γ.zero E = some z := by simp only [go_sem]; first | done | with_reducible rfl | fail) (hs0 : Γ.size E ≠ 0 := by simp only [go_sem]; first | done | fail) (hn : n * Γ.size E ≤ 16777216 := by simp only [go_sem]; first | done | omega) (hvs : ards S (parts.toList.map (·.2)) = some vs := by simp only [go_sem, *]; first | done | with_reducible rfl | fail)
    (hlf : leafAs vs = true := by simp only [go_sem, *]; first | done | fail) (hc : bldChk (List.replicate n z) ((parts.toList.map (·.1)).zip vs) = true := by simp only [go_sem]; first | done | fail)
    (hp : aput o.dst (.lst false (Γ.size E) (asetAll (List.replicate n z) ((parts.toList.map (·.1)).zip vs))) S = S' := by simp only [go_sem]; first | done | with_reducible rfl | fail) : AS P ops o S S' := .inl ⟨hg, hp ▸ bsliceF_AO hT ho hk hE hz hs0 hn hvs hlf hc⟩
theorem as_sne {T T' : Nat} {x y : Operand} {us vs : List AV} {b : Bool} (hg : gchk ops S o = some true := by first | exact gchk_none rfl | (simp only [go_sem, *]; first | done | fail) | fail) (ho : o.op = .binOp .neq T x y T' := by rfl) (hx : ard S x = some (.agg us) := by simp only [go_sem, *]; first | done | with_reducible rfl) (hy : ard S y = some (.agg vs) := by simp only [go_sem, *]; first | done | with_reducible rfl)
    (he : StEq P T us vs b := by exact SEq.eq) (hp : aput o.dst (.bool (!b)) S = S' := by simp only [go_sem]; first | done | with_reducible rfl) : AS P ops o S S' := .inl ⟨hg, o_sne ho hx hy he hp⟩
end
end Go.Bv
