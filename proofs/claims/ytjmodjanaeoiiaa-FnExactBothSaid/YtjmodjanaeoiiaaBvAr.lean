/- Is a list nil? Lists without room may bear any size. Generic: no program. -/
import Derived.Test.YtjmodjanaeoiiaaBvAq
import Derived.Laws.Cover3
namespace Go.Bv
open Go Go.RowKit
set_option linter.unusedSimpArgs false
set_option linter.unusedVariables false

/-- How long is the list that stands here? -/
def lenOf : AV → Option Nat
  | .lst _ _ xs => some xs.length
  | .ref _ _ _ n => some n
  | _ => none
/-- What a test for nil tells. -/
def NilIf (n : Nat) (b : Bool) : Prop := n ≠ 0 → b = false
section
variable {K : Nat → Prop} {w0 : World} {Z : Nat → Prop} {Sc L : List CV} {a : Act} {w : World} {P : Program} {Γ : Tab} {S : List AV} {ops : Array Oper} {l : List Oper} {o : Oper} {N : List AV → Prop} {Q : Exit → List AV → Prop}

theorem isnil_sound (h : Good K w0 Z Sc L a w) {x : Operand} {v : AV} (hx : ard (ers Sc) x = some v) {n : Nat} (hn : lenOf v = some n) : ∃ A c, a.eval x = .slice A n c ∧ (n ≠ 0 → A.isNone = false) := by
  obtain ⟨cx, rfl, vx, hrd, hnt⟩ := h.rd hx
  cases cx <;> simp only [er, lenOf] at hn <;> try (cases hn; done)
  · rename_i o s A c xs
    simp only [Option.some.injEq] at hn
    have hk := hrd.ok
    simp only [Ok] at hk
    have hl : (ers xs).length = xs.length := by simp [ers_eq]
    refine ⟨A, c, by rw [← vx, ← hn, hl]; rfl, fun h0 => ?_⟩
    rcases hk.1.2.1 with h1 | ⟨b, rfl, _⟩
    · exact absurd (by rw [← hn, hl]; exact h1) h0
    · rfl
  · rename_i r p lo m v
    simp only [Option.some.injEq] at hn
    subst hn
    have hr := hrd.refOk
    simp only [RefOk] at hr
    obtain ⟨x0, s, A, c, xs, l, q1, q2, q3, hlo, hh⟩ := hr
    have hokx := ((okL_cut q1).1 ((okL_append _ _).1 h.ok).1).2.1
    have hoky : Ok w Z (.lst true s A c xs) := ok_get p _ _ _ l q3 (ok_root hokx).1
    obtain ⟨A', c', rfl, hk', _⟩ := sub_ok hoky hlo hh
    refine ⟨A', c', by rw [← vx]; rfl, fun h0 => ?_⟩
    have hlen : ((xs.drop lo).take m).length = m := by simp; omega
    simp only [Ok] at hk'
    rcases hk'.1.2.1 with h1 | ⟨b, rfl, _⟩
    · exact absurd (hlen ▸ h1) h0
    · rfl
theorem al_nilOf {f : Bool → Bool} (hg : gchk ops S o = some true) (hrun : ∀ (A : Option Addr) (n c : Nat) (a : Act) (w : World) (x : Operand), a.eval x = .slice A n c → (∃ T T', (o.op = .binOp .eql T x (.const (.slice none 0 0)) T' ∨ o.op = .binOp .neq T x (.const (.slice none 0 0)) T')) → (execOp a.eval o).run P w = .ok (.value (.bool (f A.isNone))) w)
    {x : Operand} (ho : ∃ T T', (o.op = .binOp .eql T x (.const (.slice none 0 0)) T' ∨ o.op = .binOp .neq T x (.const (.slice none 0 0)) T')) {v : AV} (hx : ard S x = some v) {n : Nat} (hn : lenOf v = some n)
    (h : ∀ b, (n ≠ 0 → b = false) → AL P false ops l (aput o.dst (.bool (f b)) S) N) : AL P false ops (o :: l) S N := fun K w0 Z0 a w hF hA Q hQ k hk => by
  have h0 : ops[k]? = some o := by have := hk 0; simpa using this.symm
  obtain ⟨⟨Z, Sc, z1, z2, rfl, hG⟩, hfx⟩ := hA
  obtain ⟨A, c, he, hb⟩ := isnil_sound hG hx hn
  have hr := hrun A n c a w x he ho
  have hA' : At K w0 Z0 (ers Sc) a w := ⟨⟨Z, Sc, z1, z2, rfl, hG⟩, hfx⟩
  have hstep : o.wp P a w (fun a' w' => At K w0 Z0 (aput o.dst (.bool (f A.isNone)) (ers Sc)) a' w') Q := by
    have := ao_of (P := P) (o := o) (S := ers Sc) (S' := aput o.dst (.bool (f A.isNone)) (ers Sc))
    have hfree := hF o (by simp)
    unfold Oper.wp
    rw [hr]
    refine ⟨⟨Z, cput o.dst (.bool (f A.isNone)) Sc, z1, z2, by rw [er_cput]; simp [er], ?_⟩, fun t v ht => ?_⟩
    · have hG2 := (hG.add (c := .bool (f A.isNone)) (by simp [Ok]) (by simp [fp]) (by simp [NR, Pl])).put o.dst
      exact hG2
    · rw [put_other (fun e => by rw [e] at hfree; simp only [Kp.free] at hfree; rw [hfree] at ht; cases ht)]
      exact hfx t v ht
  simp only [List.length_cons, List.range'_succ, wpOps, h0, gchk_wanted hA' hg, if_true]
  refine .inl (Oper.wp_mono (fun a' w' hA2 => h A.isNone hb K w0 Z0 a' w' (fun q hq => hF q (by simp [hq])) hA2 Q hQ (k + 1) fun j => ?_) hstep)
  have := hk (j + 1)
  rw [List.getElem?_cons_succ] at this
  rw [this]; congr 1; omega
theorem al_isnil (hT : TabOk P Γ) {T T' E : Nat} {x : Operand} {v : AV} {n : Nat} (hg : gchk ops S o = some true) (ho : o.op = .binOp .eql T x (.const (.slice none 0 0)) T') (hk : Γ.kind T = .sl E) (hx : ard S x = some v) (hn : lenOf v = some n)
    (h : ∀ b, NilIf n b → AL P false ops l (aput o.dst (.bool b) S) N) : AL P false ops (o :: l) S N := by
  refine al_nilOf (f := id) (x := x) hg (fun A n c a w x' he ho' => ?_) ⟨T, T', .inl ho⟩ hx hn h
  obtain ⟨T1, T2, ho' | ho'⟩ := ho'
  · rw [ho] at ho'
    simp only [Op.binOp.injEq, true_and] at ho'
    obtain ⟨rfl, rfl, _⟩ := ho'
    unfold execOp
    have hev : a.eval (.const (.slice none 0 0)) = .slice none 0 0 := rfl
    have hgd : ∀ w, (eqGuard .eql T x (.const (.slice none 0 0)) (.slice A n c) (.slice none 0 0)).run P w = .ok () w := fun w => rfl
    simp only [ho, he, hev, Sem.run_bind, hgd, binOp, run_equal_slice_nil w T E A n c (hT.sl T E hk), Result.andThen_ok, Sem.run_pure, id]
  · rw [ho] at ho'
    simp at ho'
theorem al_notnil (hT : TabOk P Γ) {T T' E : Nat} {x : Operand} {v : AV} {n : Nat} (hg : gchk ops S o = some true) (ho : o.op = .binOp .neq T x (.const (.slice none 0 0)) T') (hk : Γ.kind T = .sl E) (hx : ard S x = some v) (hn : lenOf v = some n)
    (h : ∀ b, NilIf n b → AL P false ops l (aput o.dst (.bool (!b)) S) N) : AL P false ops (o :: l) S N := by
  refine al_nilOf (f := fun b => !b) (x := x) hg (fun A n c a w x' he ho' => ?_) ⟨T, T', .inr ho⟩ hx hn h
  obtain ⟨T1, T2, ho' | ho'⟩ := ho'
  · rw [ho] at ho'
    simp at ho'
  · rw [ho] at ho'
    simp only [Op.binOp.injEq, true_and] at ho'
    obtain ⟨rfl, rfl, _⟩ := ho'
    unfold execOp
    have hev : a.eval (.const (.slice none 0 0)) = .slice none 0 0 := rfl
    have hgd : ∀ w, (eqGuard .neq T x (.const (.slice none 0 0)) (.slice A n c) (.slice none 0 0)).run P w = .ok () w := fun w => rfl
    simp only [ho, he, hev, Sem.run_bind, hgd, binOp, run_equal_slice_nil w T E A n c (hT.sl T E hk), Result.andThen_ok, Sem.run_pure]

/-- An empty list without room may bear any size. -/
theorem At.tag {K : Kp} {Z0 : Nat → Prop} (hA : At K w0 Z0 S a w) {r : Nat} {p : List Nat} {x0 : AV} (s : Nat) (hx : S[r]? = some x0) (hp : plA (rootA x0) = true) (hy : aget S r p = some (.lst true 0 [])) : At K w0 Z0 (asetc S r p (.lst true s [])) a w := by
  obtain ⟨⟨Z, Sc, z1, z2, rfl, hG⟩, hfx⟩ := hA
  obtain ⟨x0c, hxc, rfl⟩ : ∃ x0c, Sc[r]? = some x0c ∧ er x0c = x0 := by
    rw [ers_eq, List.getElem?_map] at hx
    cases hq : Sc[r]? with
    | none => simp [hq] at hx
    | some q => simp only [hq, Option.map_some, Option.some.injEq] at hx; exact ⟨q, rfl, hx⟩
  have hproot : Pl (rootC x0c).1 := pl_er _ (by rw [er_root]; exact hp)
  obtain ⟨yc, l, hg, hye⟩ : ∃ yc l, cgetN (rootC x0c).1 (rootC x0c).2 p = some (yc, l) ∧ er yc = .lst true 0 [] := by
    unfold aget at hy
    rw [hx] at hy
    simp only at hy
    rw [← er_root] at hy
    exact er_get' p _ _ _ hy
  obtain ⟨A, c, xs, rfl, hxs⟩ := er_lst hye
  have hnil : xs = [] := by cases xs <;> simp [ers] at hxs ⊢
  subst hnil
  have hokx := ((okL_cut hxc).1 ((okL_append _ _).1 hG.ok).1).2.1
  have hoky : Ok w Z (.lst true 0 A c []) := ok_get p _ _ _ l hg (ok_root hokx).1
  have hc : c = 0 := by
    by_cases hc : c = 0
    · exact hc
    · simp only [Ok] at hoky; exact absurd rfl (hoky.1.2.2 rfl hc).1
  subst hc
  obtain ⟨hG2, _⟩ := hG.reset (y' := .lst true s A 0 []) hxc hproot hg (by simp [flat]) (by simp [Ok, HdrOk, OkL, fps, flats]) (by simp [Pl, PlL]) (by simp only [fp]; exact Fits.refl _) (by simp)
  exact ⟨⟨Z, _, z1, z2, by rw [er_csetc]; simp [er, ers], hG2⟩, hfx⟩
theorem aw_tag {c : Code} {r : Nat} {p : List Nat} {x0 : AV} (s : Nat) (hx : S[r]? = some x0) (hp : plA (rootA x0) = true) (hy : aget S r p = some (.lst true 0 [])) {S' : List AV} (hS : asetc S r p (.lst true s []) = S') (h : AW P c S' Q) : AW P c S Q := by
  subst hS
  exact fun K w0 Z0 a w hF hA => h K w0 Z0 a w hF (hA.tag s hx hp hy)
theorem aw_ret_tag {r : Nat} {p : List Nat} {x0 : AV} (s : Nat) {S' : List AV} (hx : S[r]? = some x0) (hp : plA (rootA x0) = true) (hy : aget S r p = some (.lst true 0 [])) (hS : asetc S r p (.lst true s []) = S') (h : Q .ret S') : AW P .ret S Q :=
  aw_tag s hx hp hy hS (aw_ret h)
theorem al_movetup {t : Nat} {vs S' : List AV} (hg : gchk ops S o = some true) (ho : o.op = .move (.tmp t)) (ht : S[t]? = some (.tup vs)) (hp : aput o.dst (.tup vs) (S.set t .undef) = S') (h : AL P false ops l S' N) : AL P false ops (o :: l) S N := by
  subst hp
  exact al_op hg (ao_movetup ho ht) h
/-- A call that is lent a list. -/
theorem al_lendL {f : Nat} {args : Array Operand} {ats : Array TypeId} {vs S' xs : List AV} {r n s : Nat} {p : List Nat} (t : Nat) {x0 v rv : AV} (hgd : gchk ops S o = some true)
    (ho : o.op = .call { callee := .value (.func f), args, argTypes := ats }) (hf : ∀ vs w, (callFunc f vs).run P w = .ok (.enter f vs) w)
    (hvs : ards S args.toList = some vs) (ht : vs[t]? = some (.ref r p 0 n)) (hx : S[r]? = some x0) (hp : plA (rootA x0) = true) (hy : aget S r p = some (.lst true s xs)) (hn : xs.length = n)
    (hpl : plAs (vs.set t (.lst true s xs)) = true) (hS : SoundM P f (vs.set t (.lst true s xs)) t rv v) (hsk : skA (.lst true s xs) v = true) (hp' : aput o.dst rv (aback S r p (.lst true s xs) v) = S') (h : AL P false ops l S' N) : AL P false ops (o :: l) S N := by
  subst hn
  exact al_lend t hgd ho hf hvs (by simpa [aview] using ht) hx hp hy rfl hpl hS hsk hp' h
end
end Go.Bv
