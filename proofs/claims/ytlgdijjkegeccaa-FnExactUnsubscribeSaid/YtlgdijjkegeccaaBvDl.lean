/- What slices.Delete does with a list that it was handed. Generic: no program. -/
import Derived.Test.YtlgdijjkegeccaaBvPt
namespace Go.Bv
open Go Go.RowKit
set_option linter.unusedSimpArgs false
set_option linter.unusedVariables false
section
variable {K : Nat → Prop} {w0 : World} {Z : Nat → Prop} {Sc L : List CV} {a : Act} {w : World} {P : Program} {Γ : Tab}

/-- A part of a list beyond what the reference shows, within the list. -/
theorem slice_refC (hT : TabOk P Γ) (h : Good K w0 Z Sc L a w) {o : Oper} {T E : Nat} {x : Operand} {lo hi : Option Operand} (ho : o.op = .slice T x lo hi none) (hk : Γ.kind T = .sl E) (hE : Γ.kind E ≠ .no)
    {r l0 m : Nat} {p : List Nat} {v : Value} (hval : val (.ref r p l0 m v) = a.eval x) (hrd : Rd w Z Sc (.ref r p l0 m v)) {s0 : Nat} {ys : List AV} (hg : aget (ers Sc) r p = some (.lst true s0 ys))
    (hall : ys.all (fun y => alen y == Γ.size E) = true) {hh l : Nat} (hb1 : bndA (ers Sc) hi m (ys.length - l0) = some hh) (hb2 : bndA (ers Sc) lo 0 hh = some l) : QS P a w Z Sc o (.ref r p (l0 + l) (hh - l)) := by
  have hr := hrd.refOk
  simp only [RefOk] at hr
  obtain ⟨x0, s, A, cap, xs, lo', hx0, hp, hcg, hlo, A', c', rfl, hloc, rfl, hnc, hA0, hA1⟩ := hr
  have hys : ys = ers xs := by
    have := er_cget (Sc := Sc) (r := r) (p := p) (y := .lst true s A cap xs) (l := lo') (by simp [cget, hx0, hcg])
    rw [hg] at this; simpa [er] using (by simpa [er] using this : s0 = s ∧ ys = ers xs).2
  subst hys
  have hyl : (ers xs).length = xs.length := by simp [ers_eq]
  rw [hyl] at hb1
  have hokx := ((okL_cut hx0).1 ((okL_append _ _).1 h.ok).1).2.1
  have hoky : Ok w Z (.lst true s A cap xs) := ok_get p _ _ _ lo' hcg (ok_root hokx).1
  simp only [Ok] at hoky
  obtain ⟨⟨b1, b2, b3⟩, c2, c3, c4⟩ := hoky
  obtain ⟨hrun, hl1, hl2⟩ := run_bounds (P := P) h (cap := cap - l0) (top := xs.length - l0) (by omega) (by omega) hb1 hb2 true
  have hsz := run_size (P := P) hT hE w
  refine ⟨.ref r p (l0 + l) (hh - l) (.slice (if cap - l0 = l then A' else A'.map (·.add (l * Γ.size E))) (hh - l) (cap - l0 - l)), by simp [er], ?_, ⟨?_, by simp [Wf], by simp [Ok], by simp [fp], .inr (by simp [NoOwn])⟩, by simp⟩
  · unfold execOp
    simp only [ho]
    rw [← hval]
    have hvl : val (.ref r p l0 m (.slice A' m (cap - l0))) = .slice A' m (cap - l0) := rfl
    simp only [hvl, Instr.sliceAt, Instr.slice, Sem.run_bind, run_underlying (hT.sl T E hk), Result.andThen_ok, hrun, hsz, Option.map_none, Sem.run_pure]
    rfl
  · simp only [RefOk]
    refine ⟨x0, s, A, cap, xs, lo', hx0, hp, hcg, by omega, _, _, rfl, by omega, by omega, by omega, fun e => ?_, fun hlt => ?_⟩
    · have e1 : l0 = 0 := by omega
      have e2 : l = 0 := by omega
      subst e1; subst e2
      rw [hA0 rfl]
      split
      · rfl
      · cases A <;> simp [Addr.add]
    · rw [if_neg (by omega), hA1 (by omega)]
      cases hA : A with
      | none => rfl
      | some ad =>
        simp only [Option.map_some]
        have hsp : ad.spot = none := by
          obtain ⟨_, ad', _, _, e, hs, _⟩ := b3 (by trivial) (by omega)
          rw [hA] at e; cases e; exact hs
        rw [add_add hsp]
        congr 2
        by_cases hl0 : l = 0
        · subst hl0; simp
        · rw [all_size hall c2 (by intro e; subst e; simp at hlo hl2; omega), Nat.add_mul]

variable {S S1 S' : List AV} {ops : Array Oper} {l : List Oper} {o : Oper} {N : List AV → Prop}
theorem o_sliceC (hT : TabOk P Γ) {T E r l0 m s0 hh lw : Nat} {p : List Nat} {x : Operand} {lo hi : Option Operand} {ys : List AV} (ho : o.op = .slice T x lo hi none) (hk : Γ.kind T = .sl E) (hE : Γ.kind E ≠ .no) (hx : ard S x = some (.ref r p l0 m))
    (hg : aget S r p = some (.lst true s0 ys)) (hall : ys.all (fun y => alen y == Γ.size E) = true) (hb1 : bndA S hi m (ys.length - l0) = some hh) (hb2 : bndA S lo 0 hh = some lw) (hp : aput o.dst (.ref r p (l0 + lw) (hh - lw)) S = S') : AO P o S S' :=
  hp ▸ es_AO fun K w0 Z Sc a w e h => by
    subst e
    obtain ⟨c, hc, hval, hrd, _⟩ := h.rd hx
    obtain ⟨v, rfl⟩ := er_ref hc
    obtain ⟨d, e1, e2, e3, _⟩ := slice_refC hT h ho hk hE hval hrd hg hall hb1 hb2
    exact es_value e2 (by rw [er_cput, e1]) (h.putRd o.dst e3)
/-- A slice with three bounds, whose result is not looked at. -/
theorem o_slice3 (hT : TabOk P Γ) {T E r l0 m hh mm lw : Nat} {k1 k2 k3 : IntKind} {p : List Nat} {x lo hi mx : Operand} (ho : o.op = .slice T x (some lo) (some hi) (some mx)) (hk : Γ.kind T = .sl E) (hE : Γ.kind E ≠ .no) (hx : ard S x = some (.ref r p l0 m))
    (h1 : ard S lo = some (.int k1 (lw : Nat))) (h2 : ard S hi = some (.int k2 (hh : Nat))) (h3 : ard S mx = some (.int k3 (mm : Nat))) (hm : mm ≤ m) (hh' : hh ≤ mm) (hl' : lw ≤ hh) (hp : aput o.dst .undef S = S') : AO P o S S' :=
  hp ▸ es_AO fun K w0 Z Sc a w e h => by
    subst e
    obtain ⟨c, hc, hval, hrd, _⟩ := h.rd hx
    obtain ⟨v, rfl⟩ := er_ref hc
    have hr := hrd.refOk
    simp only [RefOk] at hr
    obtain ⟨x0, s, A, cap, xs, lo', hx0, hp, hcg, hlo, A', c', rfl, hloc, rfl, hnc, hA0, hA1⟩ := hr
    obtain ⟨c1, e1, v1, _, _⟩ := h.rd h1
    obtain ⟨c2, e2, v2, _, _⟩ := h.rd h2
    obtain ⟨c3, e3, v3, _, _⟩ := h.rd h3
    have := er_int e1; subst this
    have := er_int e2; subst this
    have := er_int e3; subst this
    have hsz := run_size (P := P) hT hE w
    have hrun : (execOp a.eval o).run P w = .ok (.value (.slice (if mm = lw then A' else A'.map (·.add (lw * Γ.size E))) (hh - lw) (mm - lw))) w := by
      unfold execOp
      simp only [ho]
      rw [← hval]
      have hvl : val (.ref r p l0 m (.slice A' m (cap - l0))) = .slice A' m (cap - l0) := rfl
      have g1 : (0 : Int) ≤ (mm : Int) ∧ (mm : Int) ≤ ((cap - l0 : Nat) : Int) := by omega
      have g2 : (0 : Int) ≤ (hh : Int) ∧ (hh : Int) ≤ (mm : Int) := by omega
      have g3 : (0 : Int) ≤ (lw : Int) ∧ (lw : Int) ≤ (hh : Int) := by omega
      have b3 : (Instr.sliceBound (a.eval mx) (cap - l0) .slice3Acap).run P w = .ok mm w := by
        rw [← v3]
        simp only [val_int, Instr.sliceBound, asIntOf, Sem.run_bind, Sem.run_pure, Result.andThen_ok, if_pos g1, Int.toNat_natCast]
      have b2 : (Instr.sliceBound (a.eval hi) mm .slice3B).run P w = .ok hh w := by
        rw [← v2]
        simp only [val_int, Instr.sliceBound, asIntOf, Sem.run_bind, Sem.run_pure, Result.andThen_ok, if_pos g2, Int.toNat_natCast]
      have b1 : (Instr.sliceBound (a.eval lo) hh .slice3C).run P w = .ok lw w := by
        rw [← v1]
        simp only [val_int, Instr.sliceBound, asIntOf, Sem.run_bind, Sem.run_pure, Result.andThen_ok, if_pos g3, Int.toNat_natCast]
      simp only [hvl, Instr.sliceAt, Instr.slice, Instr.sliceBounds, Sem.run_bind, run_underlying (hT.sl T E hk), Result.andThen_ok, b1, b2, b3, hsz, Option.map_some, Option.isSome_some, if_true, Sem.run_pure]
    obtain ⟨V, hV⟩ : ∃ V, Value.slice (if mm = lw then A' else A'.map (·.add (lw * Γ.size E))) (hh - lw) (mm - lw) = V := ⟨_, rfl⟩
    rw [hV] at hrun
    refine es_value hrun (Sc' := cput o.dst (.undef V) Sc) (by rw [er_cput]; simp [er]) ?_
    have := h.putRd o.dst (c := .undef V) ⟨by simp [RefOk], by simp [Wf], by simp [Ok], by simp [fp], .inr (by simp [NoOwn])⟩
    simpa only [val_undef] using this

theorem put_same {a : Act} {q : Nat} {v : Value} (h : a.tmps[q]? = some v) : a.put (some q) v = a := by
  simp only [Act.put]
  have hq : q < a.tmps.size := by
    rcases Nat.lt_or_ge q a.tmps.size with h' | h'
    · exact h'
    · rw [Array.getElem?_eq_none h'] at h; cases h
  have : a.tmps.setIfInBounds q v = a.tmps := by
    apply Array.ext_getElem?
    intro j
    rw [Array.getElem?_setIfInBounds]
    split
    · rename_i e; subst e; rw [h]
    · rfl
  rw [this]
/-- What of a list keeps when a part of it is moved to the left. -/
def dropped (i j : Nat) (xs : List AV) : List AV := xs.take i ++ (xs.drop j ++ (xs.drop (i + (xs.length - j))).map blankA)
theorem appDel_sound (hT : TabOk P Γ) (h : Good K w0 Z Sc L a w) {T E r i j k q d : Nat} {x y : Operand} {s : Nat} {xs : List AV} (ho : o.op = .call { callee := .builtin .append, args := #[x, y], argTypes := #[T, T] }) (hdst : o.dst = some d) (hk : Γ.kind T = .sl E) (hE : Γ.kind E ≠ .no)
    (hx : ard (ers Sc) x = some (.ref r [] 0 i)) (hy : ard (ers Sc) y = some (.ref r [] j k)) (hS : (ers Sc)[r]? = some (.lst true s xs)) (hs : s = Γ.size E) (hij : i ≤ j) (hjk : j + k = xs.length) (hq : (ers Sc)[q]? = some (.ref r [] 0 xs.length)) (hqr : q ≠ r) (hdr : d ≠ r) (hdq : d ≠ q)
    (hd : (ers Sc)[d]? = some .undef) (hp : plA (.lst true s xs) = true) (hx0 : 0 < xs.length) : ES P K w0 Z L a w o ((((asetc (ers Sc) r [] .undef)).set q (.lst true s (dropped i j xs))).set d (.ref q [] 0 (i + k))) := by
  obtain ⟨cx, ex, vx, hrd, _⟩ := h.rd hx
  obtain ⟨v1, rfl⟩ := er_ref ex
  obtain ⟨cy, ey, vy, hrdy, _⟩ := h.rd hy
  obtain ⟨v2, rfl⟩ := er_ref ey
  rw [ers_eq, List.getElem?_map, Option.map_eq_some_iff] at hS hq
  obtain ⟨c0, hc0, e0⟩ := hS
  obtain ⟨A, c, xsC, rfl, rfl⟩ := er_lst e0
  obtain ⟨cq, hcq, eq⟩ := hq
  obtain ⟨v3, rfl⟩ := er_ref eq
  have hlen : (ers xsC).length = xsC.length := by simp [ers_eq]
  rw [hlen] at hjk hcq hx0
  have hdok : Ok w Z (.lst true s A c xsC) := ((okL_cut hc0).1 ((okL_append _ _).1 h.ok).1).2.1
  have hplx : PlL xsC := by
    rcases h.sorted _ (List.mem_of_getElem? hc0) with hn | hn
    · simpa only [NR, Pl] using hn
    · simp [NoOwn] at hn
  -- the operands' values
  have hrx := hrd.refOk
  simp only [RefOk] at hrx
  obtain ⟨x1, s1, A1, c1, xs1, l1, g1, g2, g3, g4, B1, d1, rfl, m1, rfl, m2, m3, m4⟩ := hrx
  rw [hc0] at g1; cases g1
  simp only [rootC, cgetN, Option.some.injEq, Prod.mk.injEq, CV.lst.injEq, true_and] at g3
  obtain ⟨⟨rfl, rfl, rfl, rfl⟩, rfl⟩ := g3
  have := m3 rfl
  subst this
  have hry := hrdy.refOk
  simp only [RefOk] at hry
  obtain ⟨x2, s2, A2, c2, xs2, l2, f1, f2, f3, f4, hh2⟩ := hry
  rw [hc0] at f1; cases f1
  simp only [rootC, cgetN, Option.some.injEq, Prod.mk.injEq, CV.lst.injEq, true_and] at f3
  obtain ⟨⟨rfl, rfl, rfl, rfl⟩, rfl⟩ := f3
  have hrq := h.refs _ (List.mem_of_getElem? hcq)
  have hrq0 := hrq
  simp only [RefOk] at hrq
  obtain ⟨x3, s3, A3, c3, xs3, l3, k1, k2, k3, k4, B3, d3, rfl, n1, rfl, n2, n3, n4⟩ := hrq
  rw [hc0] at k1; cases k1
  simp only [rootC, cgetN, Option.some.injEq, Prod.mk.injEq, CV.lst.injEq, true_and] at k3
  obtain ⟨⟨rfl, rfl, rfl, rfl⟩, rfl⟩ := k3
  have := n3 rfl
  subst this
  obtain ⟨B2, d2, rfl, b1, rfl, b2, b3, b4⟩ := hh2
  -- the list beside the frame
  have hca : Ok w Z (.ref r [] 0 xsC.length (.slice B3 xsC.length (c - 0))) := by simp [Ok]
  obtain ⟨dv, Sc1, t1, t2, hG1, t4, t5, _, _⟩ := take_good (.ref r [] 0 xsC.length (.slice B3 xsC.length (c - 0))) Sc L h hrq0 (by simp [Wf]) hca (by simp [fp]) (.lst true s ((ers xsC).drop 0 |>.take xsC.length)) (asetc (ers Sc) r [] .undef) (by
    simp only [er, atake, aget, ers_eq, List.getElem?_map, hc0, Option.map_some, er, rootA, agetN])
  obtain ⟨A9, c9', x9, rfl, e9⟩ := er_lst t1
  have e9' : ers x9 = ers xsC := by rw [e9, List.drop_zero, List.take_of_length_le (by rw [hlen]; exact Nat.le_refl _)]
  have hl9 : x9.length = xsC.length := by rw [← hlen, ← e9']; simp [ers_eq]
  simp only [flat, List.cons.injEq, Value.slice.injEq, and_true] at t4
  obtain ⟨eA9, _, ec9⟩ := t4
  subst ec9
  subst eA9
  obtain ⟨c, rfl⟩ : ∃ c, c = c9' := ⟨_, rfl⟩
  rw [Nat.sub_zero] at *
  have hplx9 : PlL x9 := by simpa only [Pl] using t5
  obtain ⟨hz1, i0, h1, hsz, hby⟩ : ∃ (_ : True) (i0 : TypeInfo), P.info? E = some i0 ∧ i0.size = Γ.size E ∧ True := by
    obtain ⟨i', q1, q2, _⟩ := hT.size E hE
    exact ⟨trivial, i', q1, q2, trivial⟩
  have hu := hT.sl T E hk
  have hok9 : Ok w Z (.lst true s A9 c x9) := ((okL_append _ _).1 hG1.ok).2.1
  have hok9' := hok9
  simp only [Ok] at hok9
  obtain ⟨⟨q1, q2, q3⟩, q4, _, q6⟩ := hok9
  have hc1 : c ≠ 0 := by omega
  obtain ⟨hsn, ad, cur, E', rfl, hsp, hb, hcm, hrm⟩ := q3 rfl hc1
  have hcells : CellsAt w ad (flats x9) := by
    rcases q2 with h0 | ⟨a', ha', _, hc', _⟩
    · omega
    · cases ha'; exact hc'
  obtain ⟨ys, hys⟩ : ∃ ys, x9.drop j = ys := ⟨_, rfl⟩
  have hyk : ys.length = k := by rw [← hys, List.length_drop]; omega
  have hysl : ∀ u ∈ ys, (flat u).length = s := fun u hu => q4 u (by rw [← hys] at hu; exact List.mem_of_mem_drop hu)
  have hylen : (flats ys).length = k * s := by rw [flats_len_of hysl, hyk]
  subst hs
  have hf : (Builtin.firstCells i0.size k (.slice B2 k (c - j))).run P w = .ok (flats ys).toArray w := by
    by_cases hk0 : k = 0
    · subst hk0
      have : ys = [] := List.eq_nil_of_length_eq_zero hyk
      subst this
      exact run_first_none
    · have hB := b4 (by omega)
      simp only [Option.map_some] at hB
      subst hB
      refine run_firstCells_some w i0.size k _ k (c - j) (flats ys) (by rw [hylen, hsz]) ?_
      have := cells_sub hsp q4 hcells j k (by omega)
      rw [hys, List.take_of_length_le (by omega)] at this
      exact this
  have hroom : i + k ≤ c := by omega
  have hiks : i * Γ.size E + k * Γ.size E ≤ c * Γ.size E := by rw [← Nat.add_mul]; exact Nat.mul_le_mul_right _ hroom
  have hfit : ad.off + i * Γ.size E + (flats ys).length ≤ cur.size := by rw [hylen]; omega
  have had : ad.add (i * i0.size) = ⟨ad.block, ad.off + i * Γ.size E, none⟩ := by rw [add_eq hsp, hsz]
  obtain ⟨hst, hnew⟩ := stored_setRow (w := w) (vs := flats ys) hb hfit
  have hplys : PlL ys := by
    rw [plL_iff] at hplx9 ⊢
    exact fun u hu => hplx9 u (by rw [← hys] at hu; exact List.mem_of_mem_drop hu)
  have hone : ∀ u ∈ flats ys, u.oneCell' = true := fun u hu => Pl.one (.agg ys) (by simpa only [Pl] using hplys) u (by simpa [flat] using hu)
  have hcell := run_storeCells_at P ad.block (ad.off + i * Γ.size E) E' (flats ys) 0 cur w hb (by simpa using hfit) hone
  simp only [Nat.add_zero] at hcell
  obtain ⟨W, hW⟩ : ∃ W, W = w.setRow ad.block (cur.toList.take (ad.off + i * Γ.size E) ++ flats ys ++ cur.toList.drop (ad.off + i * Γ.size E + (flats ys).length)).toArray := ⟨_, rfl⟩
  rw [← hW] at hst hnew hcell
  have hrun : (execOp a.eval o).run P w = .ok (.value (.slice (some ad) (i + k) c)) W := by
    have := run_app_room (ty := o.type) (A := some ad) (n := i) (c := c) (m := k) (B := B2) (cb := c - j) hu h1 (news := flats ys) hf hroom (w' := W) (by simp only; rw [had]; exact hcell)
    have vx' : a.eval x = .slice (some ad) i c := by rw [← vx]; simp [val, val1, flat]
    have vy' : a.eval y = .slice B2 k (c - j) := by rw [← vy]; simp [val, val1, flat]
    unfold execOp
    simp only [ho, resolve, invoke, builtin, Sem.run_bind, Sem.run_pure, Result.andThen_ok, List.map_toArray, List.map_cons, List.map_nil, vx', vy', this]
  -- in place
  obtain ⟨zs, hzs⟩ : ∃ zs, x9.take i ++ (x9.drop j ++ (x9.drop (i + k)).map blankC) = zs := ⟨_, rfl⟩
  have hzl : zs.length = xsC.length := by rw [← hzs]; simp; omega
  have hzmem : ∀ u ∈ zs, u ∈ x9 ∨ ∃ v ∈ x9, u = blankC v := fun u hu => by
    rw [← hzs] at hu
    simp only [List.mem_append, List.mem_map] at hu
    rcases hu with hu | hu | ⟨v, hv, rfl⟩
    · exact .inl (List.mem_of_mem_take hu)
    · exact .inl (List.mem_of_mem_drop hu)
    · exact .inr ⟨v, List.mem_of_mem_drop hv, rfl⟩
  have hplz : PlL zs := by
    rw [plL_iff] at hplx9 ⊢
    intro u hu
    rcases hzmem u hu with hm | ⟨v, hm, rfl⟩
    · exact hplx9 u hm
    · exact pl_blank (hplx9 v hm)
  have hndd : (fp (.lst true (Γ.size E) (some ad) c x9)).Nodup := by
    have := hG1.nodup
    simp only [fps_append, fps] at this
    exact (List.nodup_append.1 (List.nodup_append.1 this).2.1).1
  have hbfp : ad.block ∈ fp (.lst true (Γ.size E) (some ad) c x9) := by simp [fp, hc1]
  have hnx : ∀ b ∈ fps x9, b ≠ ad.block := fun b hb' e => by
    simp only [fp, hc1, or_false, Bool.true_eq_false, if_false, Option.map_some, Option.toList_some, List.singleton_append, List.nodup_cons] at hndd
    exact hndd.1 (e ▸ hb')
  have hnZ : ∀ b, Z b → b ≠ ad.block := fun b hb' e => hG1.apart ad.block (by simp [fps_append, fps, hbfp]) (e ▸ hb')
  have hG2 := hG1.inplace (y' := .lst true (Γ.size E) (some ad) c zs) (w' := W) hbfp (fun b hb' => hst.other b hb') (by rw [hW]; exact size_setRow _ _ _) (by rw [hW]; rfl) (by rw [hW]; rfl) (by rw [hW]; rfl) (by
    simp only [Ok]
    refine ⟨⟨by rw [hzl]; omega, .inr ⟨ad, rfl, hsp, ?_, by simp⟩, fun _ _ => ?_⟩, fun u hu => ?_, by simp, ?_⟩
    · rw [← hzs, flats_append, flats_append, flats_blanks, hys, cellsAt_append hsp]
      have hl1 : (flats (x9.take i)).length = i * Γ.size E := by
        rw [flats_len_of (s := Γ.size E) fun u hu => q4 u (List.mem_of_mem_take hu), List.length_take, Nat.min_eq_left (by omega)]
      rw [hl1, add_eq hsp, cellsAt_append rfl, hylen]
      refine ⟨?_, hnew, ?_⟩
      · have := cells_sub hsp q4 hcells 0 i (by omega)
        rw [List.drop_zero, Nat.zero_mul] at this
        have e0 : ad.add 0 = ad := by rw [add_eq hsp]; cases ad; simp at hsp ⊢; exact hsp.symm
        rw [e0] at this
        exact hst.cellsAt hsp this fun _ => .inl (by rw [hl1]; exact Nat.le_refl _)
      · have := cells_sub hsp q4 hcells (i + k) (x9.length - (i + k)) (by omega)
        rw [List.take_of_length_le (by simp), add_eq hsp, Nat.add_mul, ← Nat.add_assoc] at this
        rw [add_eq rfl]
        exact hst.cellsAt rfl this fun _ => .inr (by rw [hylen]; exact Nat.le_refl _)
    · obtain ⟨cur', c1, c2⟩ := hst.hit cur E' hb
      exact ⟨hsn, ad, cur', E', rfl, hsp, c1, hcm, by rw [c2]; exact hrm⟩
    · rcases hzmem u hu with hm | ⟨v, hm, rfl⟩
      · exact q4 u hm
      · rw [flat_blank]; exact q4 v hm
    · rw [okL_iff] at q6 ⊢
      intro u hu
      rcases hzmem u hu with hm | ⟨v, hm, rfl⟩
      · exact Ok.congr (fun _ h => h) (fun b hb' => hst.other b (hnZ b hb')) _ (fun b hb' => hst.other b (hnx b (mem_fps.2 ⟨u, hm, hb'⟩))) (q6 u hm)
      · exact ok_blank v) (by
    refine Fits.of_sublist ?_
    simp only [fp]
    refine List.Sublist.append (List.Sublist.refl _) ?_
    rw [← hzs, fps_append, fps_append, fps_blanks, List.append_nil, ← fps_append]
    have hsub : (x9.take i ++ x9.drop j).Sublist x9 := by
      conv => rhs; rw [← List.take_append_drop i x9]
      refine List.Sublist.append (List.Sublist.refl _) ?_
      have : x9.drop j = (x9.drop i).drop (j - i) := by rw [List.drop_drop]; congr 1; omega
      rw [this]; exact List.drop_sublist _ _
    exact fps_sublist hsub) (by simpa only [NR, Pl] using hplz)
  have hv : val (.lst true (Γ.size E) (some ad) c zs) = .slice (some ad) xsC.length c := by simp [val, val1, flat, hzl]
  have hqt : a.tmps[q]? = some (val (.lst true (Γ.size E) (some ad) c zs)) := by
    have hqs : q < a.tmps.size := by rw [h.size]; exact (List.getElem?_eq_some_iff.1 hcq).1
    rw [h.tmps q hqs, hcq, hv]; simp [val, val1, flat]
  have hau : ∀ t : Nat, (ers Sc1)[t]? = some .undef → ∀ cv, cput (some t) cv Sc1 = Sc1.set t cv := fun t ht cv => by
    rw [ers_eq, List.getElem?_map, Option.map_eq_some_iff] at ht
    obtain ⟨u, hu, eu⟩ := ht
    cases u <;> simp [er] at eu
    simp [cput, hu, rootable]
  have hq1 : (ers Sc1)[q]? = some .undef := by
    rw [t2]
    have hq2 : (ers Sc)[q]? = some (.ref r [] 0 xsC.length) := by rw [ers_eq, List.getElem?_map, hcq]; simp [er]
    simp only [asetc, aclr, aset, ers_eq, List.getElem?_map, hc0, Option.map_some]
    rw [List.getElem?_set_ne (Ne.symm hqr), List.getElem?_map, hcq]
    simp [er, hitA, List.isPrefixOf]
  have hG3 := hG2.put (some q)
  rw [hau q hq1, put_same hqt] at hG3
  have hqlt : q < Sc1.length := by
    have := (List.getElem?_eq_some_iff.1 hq1).1
    simpa [ers_eq] using this
  have hq3 : (Sc1.set q (.lst true (Γ.size E) (some ad) c zs))[q]? = some (.lst true (Γ.size E) (some ad) c zs) := List.getElem?_set_self hqlt
  have hRd : Rd W Z (Sc1.set q (.lst true (Γ.size E) (some ad) c zs)) (.ref q [] 0 (i + k) (.slice (some ad) (i + k) c)) := by
    refine ⟨?_, by simp [Wf], by simp [Ok], by simp [fp], .inr (by simp [NoOwn])⟩
    simp only [RefOk]
    refine ⟨_, Γ.size E, some ad, c, zs, none, hq3, by simpa only [rootC, Pl] using hplz, rfl, by rw [hzl]; omega, some ad, c, rfl, Nat.zero_le _, rfl, by omega, fun _ => rfl, fun _ => ?_⟩
    simp only [Nat.zero_mul, Option.map_some]
    rw [add_eq hsp]; cases ad; simp at hsp ⊢; exact hsp
  have hG4 := hG3.putRd (some d) hRd
  have hd1 : (Sc1.set q (.lst true (Γ.size E) (some ad) c zs))[d]? = Sc1[d]? := List.getElem?_set_ne (Ne.symm hdq)
  have hd2 : (ers Sc1)[d]? = some .undef := by
    rw [t2]
    rw [ers_eq, List.getElem?_map, Option.map_eq_some_iff] at hd
    obtain ⟨u, hu, eu⟩ := hd
    simp only [asetc, aclr, aset, ers_eq, List.getElem?_map, hc0, Option.map_some]
    rw [List.getElem?_set_ne (Ne.symm hdr), List.getElem?_map, hu]
    simp [eu, hitA]
  have hput : cput (some d) (.ref q [] 0 (i + k) (.slice (some ad) (i + k) c)) (Sc1.set q (.lst true (Γ.size E) (some ad) c zs)) = (Sc1.set q (.lst true (Γ.size E) (some ad) c zs)).set d (.ref q [] 0 (i + k) (.slice (some ad) (i + k) c)) := by
    rw [ers_eq, List.getElem?_map, Option.map_eq_some_iff] at hd2
    obtain ⟨u, hu, eu⟩ := hd2
    cases u <;> simp [er] at eu
    simp [cput, hd1, hu, rootable]
  rw [hput] at hG4
  refine es_value hrun (Sc' := _) ?_ (by rw [hdst]; exact hG4)
  rw [ers_eq, List.map_set, List.map_set, ← ers_eq, t2]
  have : er (.lst true (Γ.size E) (some ad) c zs) = .lst true (Γ.size E) (dropped i j (ers xsC)) := by
    simp only [er, ← hzs, ers_append, ers_blanks, dropped, hlen, ← e9']
    have hk' : (ers x9).length - j = k := by rw [e9', hlen]; omega
    rw [hk']
    simp only [ers_eq, List.map_take, List.map_drop]
  rw [this]; rfl
theorem o_appDel (hT : TabOk P Γ) {T E r i j k d : Nat} {x y : Operand} {s : Nat} {xs : List AV} (q : Nat) (ho : o.op = .call { callee := .builtin .append, args := #[x, y], argTypes := #[T, T] }) (hdst : o.dst = some d) (hk : Γ.kind T = .sl E) (hE : Γ.kind E ≠ .no)
    (hx : ard S x = some (.ref r [] 0 i)) (hy : ard S y = some (.ref r [] j k)) (hS : S[r]? = some (.lst true s xs)) (hs : s = Γ.size E) (hij : i ≤ j) (hjk : j + k = xs.length) (hq : S[q]? = some (.ref r [] 0 xs.length)) (hqr : q ≠ r) (hdr : d ≠ r) (hdq : d ≠ q)
    (hd : S[d]? = some .undef) (hp : plA (.lst true s xs) = true) (hx0 : 0 < xs.length) (hp' : ((asetc S r [] .undef).set q (.lst true s (dropped i j xs))).set d (.ref q [] 0 (i + k)) = S') : AO P o S S' :=
  hp' ▸ es_AO fun K w0 Z Sc a w e h => by subst e; exact appDel_sound hT h ho hdst hk hE hx hy hS hs hij hjk hq hqr hdr hdq hd hp hx0
theorem i_del (hT : TabOk P Γ) {T E r i j k d : Nat} {x y : Operand} {s : Nat} {xs : List AV} (q : Nat) (hg : gchk ops S o = some true := by exact gchk_none rfl) (ho : o.op = .call { callee := .builtin .append, args := #[x, y], argTypes := #[T, T] } := by rfl) (hdst : o.dst = some d := by rfl) (hk : Γ.kind T = .sl E := by simp only [go_sem]; first | done | with_reducible rfl) (hE : Γ.kind E ≠ .no := by simp only [go_sem]; first | done | fail)
    (hx : ard S x = some (.ref r [] 0 i) := by simp only [go_sem, *]; first | done | with_reducible rfl) (hy : ard S y = some (.ref r [] j k) := by simp only [go_sem, *]; first | done | with_reducible rfl) (hS : S[r]? = some (.lst true s xs) := by simp only [go_sem]; first | done | with_reducible rfl) (hs : s = Γ.size E := by simp only [go_sem]; first | done | fail) (hij : i ≤ j := by omega) (hjk : j + k = xs.length := by simp only [go_sem, *]; omega)
    (hq : S[q]? = some (.ref r [] 0 xs.length) := by simp only [go_sem, *]; first | done | with_reducible rfl) (hqr : q ≠ r := by decide) (hdr : d ≠ r := by decide) (hdq : d ≠ q := by decide) (hd : S[d]? = some .undef := by simp only [go_sem]; first | done | with_reducible rfl) (hp : plA (.lst true s xs) = true := by simp only [go_sem, *]; first | done | fail) (hx0 : 0 < xs.length := by simp only [go_sem, *]; omega)
    (hp' : ((asetc S r [] .undef).set q (.lst true s (dropped i j xs))).set d (.ref q [] 0 (i + k)) = S' := by simp only [go_sem]; first | done | with_reducible rfl) : AL P false ops l S' N → AL P false ops (o :: l) S N :=
  al_op hg (o_appDel hT q ho hdst hk hE hx hy hS hs hij hjk hq hqr hdr hdq hd hp hx0 hp')
theorem i_slC (hT : TabOk P Γ) {T E r l0 m s0 hh lw : Nat} {p : List Nat} {x : Operand} {lo hi : Option Operand} {ys : List AV} (hg : gchk ops S o = some true := by exact gchk_none rfl) (ho : o.op = .slice T x lo hi none := by rfl) (hk : Γ.kind T = .sl E := by simp only [go_sem]; first | done | with_reducible rfl) (hE : Γ.kind E ≠ .no := by simp only [go_sem]; first | done | fail)
    (hx : ard S x = some (.ref r p l0 m) := by simp only [go_sem, *]; first | done | with_reducible rfl) (hgt : aget S r p = some (.lst true s0 ys) := by simp only [go_sem, *]; first | done | with_reducible rfl) (hall : ys.all (fun y => alen y == Γ.size E) = true := by simp only [go_sem, *]; first | done | fail) (hb1 : bndA S hi m (ys.length - l0) = some hh := by simp only [go_sem, *]; first | done | with_reducible rfl) (hb2 : bndA S lo 0 hh = some lw := by simp only [go_sem, *]; first | done | with_reducible rfl)
    (hp : aput o.dst (.ref r p (l0 + lw) (hh - lw)) S = S' := by simp only [go_sem, *]; first | done | with_reducible rfl) : AL P false ops l S' N → AL P false ops (o :: l) S N := al_op hg (o_sliceC hT ho hk hE hx hgt hall hb1 hb2 hp)
theorem i_sl3 (hT : TabOk P Γ) {T E r l0 m hh mm lw : Nat} {k1 k2 k3 : IntKind} {p : List Nat} {x lo hi mx : Operand} (hg : gchk ops S o = some true := by exact gchk_none rfl) (ho : o.op = .slice T x (some lo) (some hi) (some mx) := by rfl) (hk : Γ.kind T = .sl E := by simp only [go_sem]; first | done | with_reducible rfl) (hE : Γ.kind E ≠ .no := by simp only [go_sem]; first | done | fail)
    (hx : ard S x = some (.ref r p l0 m) := by simp only [go_sem, *]; first | done | with_reducible rfl) (h1 : ard S lo = some (.int k1 (lw : Nat)) := by simp only [go_sem, *]; first | done | with_reducible rfl) (h2 : ard S hi = some (.int k2 (hh : Nat)) := by simp only [go_sem, *]; first | done | with_reducible rfl) (h3 : ard S mx = some (.int k3 (mm : Nat)) := by simp only [go_sem, *]; first | done | with_reducible rfl)
    (hm : mm ≤ m := by omega) (hh' : hh ≤ mm := by omega) (hl' : lw ≤ hh := by omega) (hp : aput o.dst .undef S = S' := by simp only [go_sem]; first | done | with_reducible rfl) : AL P false ops l S' N → AL P false ops (o :: l) S N := al_op hg (o_slice3 hT ho hk hE hx h1 h2 h3 hm hh' hl' hp)
end
end Go.Bv
