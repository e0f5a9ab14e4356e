/- append. Generic: no program. -/
import Derived.Test.YtjmodjanaeoiiaaBvZ
import Derived.Laws.Append
namespace Go.Bv
open Go Go.RowKit
set_option linter.unusedSimpArgs false
set_option linter.unusedVariables false

mutual
/-- No list inside. -/
def leafA : AV → Bool
  | .bool _ | .int _ _ | .str _ => true
  | .agg xs => leafAs xs
  | _ => false
def leafAs : List AV → Bool
  | [] => true
  | x :: xs => leafA x && leafAs xs
end
mutual
theorem leaf_ok {w : World} {Z : Nat → Prop} : ∀ x : CV, leafA (er x) = true → Ok w Z x ∧ fp x = [] ∧ Pl x
  | .bool _, _ | .int _ _, _ | .str _, _ => by simp [Ok, fp, Pl]
  | .agg xs, h => by simp only [er, leafA] at h; have := leafs_ok (w := w) (Z := Z) xs h; simpa [Ok, fp, Pl] using this
  | .undef _, h | .lst _ _ _ _ _, h | .fn _ _, h | .ip _ _, h | .at _ _ _, h | .ref _ _ _ _ _, h | .box _ _ _, h | .tup _, h => by simp [er, leafA] at h
theorem leafs_ok {w : World} {Z : Nat → Prop} : ∀ xs : List CV, leafAs (ers xs) = true → OkL w Z xs ∧ fps xs = [] ∧ PlL xs
  | [], _ => by simp [OkL, fps, PlL]
  | x :: xs, h => by
    simp only [ers, leafAs, Bool.and_eq_true] at h
    have h1 := leaf_ok (w := w) (Z := Z) x h.1
    have h2 := leafs_ok (w := w) (Z := Z) xs h.2
    simp [OkL, fps, PlL, h1.1, h1.2.1, h1.2.2, h2.1, h2.2.1, h2.2.2]
end
/-- The elements that an operand shows, to be copied. -/
def aels (S : List AV) : AV → Option (List AV)
  | .lst o _ ys => if o = false then some ys else (match ys with | [] => some [] | _ => none)
  | .ref r p lo n => match aget S r p with
    | some (.lst true _ ys) => if leafAs ((ys.drop lo).take n) = true then some ((ys.drop lo).take n) else none
    | _ => none
  | _ => none

section
variable {K : Nat → Prop} {w0 : World} {Z : Nat → Prop} {Sc L : List CV} {a : Act} {w : World} {P : Program} {Γ : Tab}

theorem els_sound (h : Good K w0 Z Sc L a w) {y : Operand} {ev : AV} (hy : ard (ers Sc) y = some ev) {ys : List AV} (he : aels (ers Sc) ev = some ys) :
    ∃ B cb ysC, a.eval y = .slice B ysC.length cb ∧ ers ysC = ys ∧ PlL ysC ∧ fps ysC = [] ∧ OkL w Z ysC ∧ (ysC.length = 0 ∨ ∃ b, B = some b ∧ CellsAt w b (flats ysC)) := by
  obtain ⟨cy, e1, e2, hrd, _⟩ := h.rd hy
  cases ev <;> simp only [aels] at he <;> try (cases he; done)
  · rename_i o s ys0
    obtain ⟨A, cap, xs, rfl, rfl⟩ := er_lst e1
    have hk := hrd.ok
    simp only [Ok] at hk
    obtain ⟨⟨_, h2, _⟩, _, hsh, hkl⟩ := hk
    have hpl : PlL xs := by simpa only [Wf] using hrd.wf
    have hcells : xs.length = 0 ∨ ∃ b, A = some b ∧ CellsAt w b (flats xs) := by
      rcases h2 with h2 | ⟨b, q1, _, q2, _⟩
      · exact .inl h2
      · exact .inr ⟨b, q1, q2⟩
    split at he
    · rename_i ho
      simp only [Option.some.injEq] at he
      exact ⟨A, cap, xs, by rw [← e2]; rfl, he, hpl, hsh ho, hkl, hcells⟩
    · split at he
      · rename_i hnil
        simp only [Option.some.injEq] at he
        have hx : xs = [] := by cases xs <;> simp [ers] at hnil ⊢
        subst hx
        exact ⟨A, cap, [], by rw [← e2]; rfl, by rw [← he]; rfl, by simp [PlL], rfl, by simp [OkL], .inl rfl⟩
      · cases he
  · rename_i r p lo n
    obtain ⟨v, rfl⟩ := er_ref e1
    have hr := hrd.refOk
    simp only [RefOk] at hr
    obtain ⟨x0, s, A, c, xs, l, hx, hp, hg, hlo, hh⟩ := hr
    have hga : aget (ers Sc) r p = some (.lst true s (ers xs)) := by
      have := er_cget (Sc := Sc) (r := r) (p := p) (y := .lst true s A c xs) (l := l) (by simp [cget, hx, hg])
      simpa [er] using this
    rw [hga] at he
    simp only at he
    split at he
    case isFalse => cases he
    rename_i hleaf
    simp only [Option.some.injEq] at he
    have hokx := ((okL_cut hx).1 ((okL_append _ _).1 h.ok).1).2.1
    have hoky : Ok w Z (.lst true s A c xs) := ok_get p _ _ _ l hg (ok_root hokx).1
    obtain ⟨A', c', rfl, hk', _⟩ := sub_ok hoky hlo hh
    have hlen : ((xs.drop lo).take n).length = n := by simp; omega
    have hers : ers ((xs.drop lo).take n) = ((ers xs).drop lo).take n := by simp [ers_eq, List.map_take, List.map_drop]
    rw [← hers] at hleaf he
    obtain ⟨l1, l2, l3⟩ := leafs_ok (w := w) (Z := Z) _ hleaf
    refine ⟨A', c', (xs.drop lo).take n, by rw [← e2, hlen]; rfl, he, l3, l2, l1, ?_⟩
    simp only [Ok] at hk'
    rcases hk'.1.2.1 with q | ⟨b, q1, _, q2, _⟩
    · exact .inl q
    · exact .inr ⟨b, q1, q2⟩

/-- One block of what stands beside the frame is turned in place. -/
theorem Good.inplace {y y' : CV} (h : Good K w0 Z Sc (y :: L) a w) {w' : World} {b : Nat} (hb : b ∈ fp y) (hoth : ∀ k, k ≠ b → w'.heap[k]? = w.heap[k]?) (hsz : w'.heap.size = w.heap.size) (ho : w'.os = w.os) (ht : w'.tape = w.tape) (hu : w'.output = w.output)
    (hok : Ok w' Z y') (hf : Fits (fp y') (fp y)) (hn : NR y') : Good K w0 Z Sc (y' :: L) a w' := by
  have hnd := h.nodup
  simp only [fps_append, fps] at hnd
  have hsplit := List.nodup_append.1 hnd
  have hsplit2 := List.nodup_append.1 hsplit.2.1
  have nSc : ∀ k ∈ fps Sc, k ≠ b := fun k hk e => hsplit.2.2 k hk b (by simp [hb]) e
  have nL : ∀ k ∈ fps L, k ≠ b := fun k hk e => hsplit2.2.2 b hb k hk e.symm
  have nZ : ∀ k, Z k → k ≠ b := fun k hk e => h.apart b (by simp [fps_append, fps, hb]) (e ▸ hk)
  have hokS := (okL_append _ _).1 h.ok
  have hfit : Fits (fps (Sc ++ y' :: L)) (fps (Sc ++ y :: L)) := by
    simp only [fps_append, fps]
    refine ⟨fun hnd => ?_, fun x hx => ?_⟩
    · rw [List.nodup_append, List.nodup_append (l₂ := fps L)] at hnd ⊢
      obtain ⟨n1, ⟨n2, n3, n4⟩, n5⟩ := hnd
      refine ⟨n1, ⟨hf.nodup n2, n3, fun u hu v hv => n4 u (hf.sub u hu) v hv⟩, fun u hu v hv => n5 u hu v ?_⟩
      rcases List.mem_append.1 hv with hv | hv
      · exact List.mem_append.2 (.inl (hf.sub v hv))
      · exact List.mem_append.2 (.inr hv)
    · rcases List.mem_append.1 hx with hx | hx
      · exact List.mem_append.2 (.inl hx)
      · rcases List.mem_append.1 hx with hx | hx
        · exact List.mem_append.2 (.inr (List.mem_append.2 (.inl (hf.sub x hx))))
        · exact List.mem_append.2 (.inr (List.mem_append.2 (.inr hx)))
  refine { defers := h.defers, size := h.size, tmps := h.tmps, ok := ?_, nodup := hfit.nodup h.nodup, apart := fun k hk => h.apart k (hfit.sub k hk), lt := fun k hk => by rw [hsz]; exact h.lt k (hk.imp (hfit.sub k) id),
           refs := h.refs, wf := h.wf, sorted := h.sorted, nr := fun x hx => ?_, kept := fun k hk => ⟨(h.kept k hk).1, fun hm => (h.kept k hk).2.1 (hfit.sub k hm), ?_⟩, os := ho.trans h.os, tape := ht.trans h.tape, output := hu.trans h.output, grew := by rw [hsz]; exact h.grew }
  · rw [okL_append]
    simp only [OkL] at hokS ⊢
    exact ⟨OkL.congr (fun _ h => h) (fun k hk => hoth k (nZ k hk)) _ (fun k hk => hoth k (nSc k hk)) hokS.1, hok, OkL.congr (fun _ h => h) (fun k hk => hoth k (nZ k hk)) _ (fun k hk => hoth k (nL k hk)) hokS.2.2⟩
  · rcases List.mem_cons.1 hx with rfl | hx
    · exact hn
    · exact h.nr x (by simp [hx])
  · refine (hoth k fun e => ?_).trans (h.kept k hk).2.2
    exact (h.kept k hk).2.1 (by rw [e]; simp [fps_append, fps, hb])

theorem run_app_room {T E : TypeId} {i : TypeInfo} (ht : P.underlying T = some (.slice E)) (hi : P.info? E = some i) {ty : TypeId} {A B : Option Addr} {n c m cb : Nat} {news : List Value} {w' : World}
    (hf : (Builtin.firstCells i.size m (.slice B m cb)).run P w = .ok news.toArray w) (hroom : n + m ≤ c) (hst : match A with | some ad => (storeCells (ad.add (n * i.size)) news).run P w = .ok () w' | none => w' = w) :
    (Builtin.append_ #[T, T] ty #[.slice A n c, .slice B m cb]).run P w = .ok (.slice A (n + m) c) w' := by
  cases A with
  | none => simp only at hst; subst hst; simp [Builtin.append_, run_underlying ht, sizeOf, typeInfo, hi, Builtin.lenOf, hroom, hf]
  | some ad => simp only at hst; simp [Builtin.append_, run_underlying ht, sizeOf, typeInfo, hi, Builtin.lenOf, hroom, hf, hst]
theorem run_first_none {size : Nat} {B : Option Addr} {cb : Nat} : (Builtin.firstCells size 0 (.slice B 0 cb)).run P w = .ok #[] w := by
  cases B <;> simp [Builtin.firstCells, loadCells, loadCellsFrom]

theorem append_sound (hT : TabOk P Γ) (h : Good K w0 Z Sc L a w) {o : Oper} {T E : Nat} {x y : Operand} (ho : o.op = .call { callee := .builtin .append, args := #[x, y], argTypes := #[T, T] }) (hk : Γ.kind T = .sl E) (hE : Γ.kind E ≠ .no)
    {z : AV} (hz : Γ.zero E = some z) (hs0 : Γ.size E ≠ 0) {dv : AV} (hx : ard (ers Sc) x = some dv) {s : Nat} {xs S' : List AV} (ht : atake (ers Sc) dv = some (.lst true s xs, S')) (hs : (s = 0 ∧ xs = []) ∨ s = Γ.size E)
    {ev : AV} (hy : ard (ers Sc) y = some ev) {ys : List AV} (hel : aels (ers Sc) ev = some ys) (hys : ys.all (fun u => alen u == Γ.size E) = true)
    (hm : xs.length + ys.length ≤ 9223372036854775807) (hbnd : (xs.length + ys.length) * Γ.bytes E ≤ 140737488355328) :
    ES P K w0 Z L a w o (aput o.dst (.lst true (Γ.size E) (xs ++ ys)) S') := by
  obtain ⟨B, cb, ysC, vy, rfl, p1, p2, p3, p4⟩ := els_sound h hy hel
  obtain ⟨cx, rfl, vx, hrd, hnt⟩ := h.rd hx
  obtain ⟨d, Sc', e1, e2, hG, hfl, hpl, hag, _⟩ := take_good cx Sc L h hrd.refOk hrd.wf hrd.ok hrd.fp _ S' ht
  obtain ⟨A, c, xsC, rfl, rfl⟩ := er_lst e1
  have hvd : a.eval x = .slice A xsC.length c := by rw [← vx, ← val_same hfl hpl hag hnt]; rfl
  obtain ⟨hz1, i, v, h1, h2, h3, h4⟩ := hT.zero E z hz
  obtain ⟨i', h1', hsz, hby⟩ := hT.size E hE
  rw [h1] at h1'; cases h1'
  have hu := hT.sl T E hk
  have hdok : Ok w Z (.lst true s A c xsC) := ((okL_append _ _).1 hG.ok).2.1
  have hdok' := hdok
  simp only [Ok] at hdok
  obtain ⟨⟨k1, k2, k3⟩, k4, _, k6⟩ := hdok
  have hplx : PlL xsC := by simpa only [Pl] using hpl
  have hyl : ∀ u ∈ ysC, (flat u).length = Γ.size E := fun u hu => by
    have := List.all_eq_true.1 hys (er u) (by rw [ers_eq]; exact List.mem_map.2 ⟨u, hu, rfl⟩)
    rw [← alen_er]; simpa using this
  have hxl : ∀ u ∈ xsC, (flat u).length = Γ.size E := fun u hu => by
    rcases hs with ⟨_, hs⟩ | hs
    · have : xsC = [] := by cases xsC <;> simp [ers] at hs ⊢
      subst this; simp at hu
    · rw [k4 u hu, hs]
  have hlens : ∀ us : List CV, (∀ u ∈ us, (flat u).length = Γ.size E) → (flats us).length = us.length * Γ.size E := by
    intro us
    induction us with
    | nil => intro _; simp [flats]
    | cons u us ih => intro hu; simp only [flats, List.length_append, List.length_cons, hu u (by simp), ih (fun q hq => hu q (by simp [hq]))]; rw [Nat.add_mul]; omega
  have hxlen := hlens xsC hxl
  have hylen := hlens ysC hyl
  have hrunof : ∀ v' w', (Builtin.append_ #[T, T] o.type #[.slice A xsC.length c, .slice B ysC.length cb]).run P w = .ok v' w' → (execOp a.eval o).run P w = .ok (.value v') w' := by
    intro v' w' hr
    unfold execOp
    simp only [ho, resolve, invoke, builtin, Sem.run_bind, Sem.run_pure, Result.andThen_ok, List.map_toArray, List.map_cons, List.map_nil, hvd, vy, hr]
  have hersl : (ers xsC).length = xsC.length := by simp [ers_eq]
  have hersl2 : (ers ysC).length = ysC.length := by simp [ers_eq]
  rw [hersl, hersl2] at hm hbnd
  have hnr : ∀ (A' : Option Addr) (c' : Nat), NR (.lst true (Γ.size E) A' c' (xsC ++ ysC)) := fun A' c' => by
    simp only [NR, Pl]
    rw [plL_iff] at hplx p1 ⊢
    intro u hu
    rcases List.mem_append.1 hu with hu | hu
    · exact hplx u hu
    · exact p1 u hu
  have hall : ∀ u ∈ xsC ++ ysC, (flat u).length = Γ.size E := fun u hu => by
    rcases List.mem_append.1 hu with hu | hu
    · exact hxl u hu
    · exact hyl u hu
  have hfps : fps (xsC ++ ysC) = fps xsC := by rw [fps_append, p2, List.append_nil]
  have hres : ∀ (A' : Option Addr) (c' : Nat), er (.lst true (Γ.size E) A' c' (xsC ++ ysC)) = .lst true (Γ.size E) (ers xsC ++ ers ysC) := fun A' c' => by simp [er, ers_append]
  -- s is the size, or there is no room
  have hsc : c ≠ 0 → s = Γ.size E := fun hc => by
    rcases hs with ⟨hs, _⟩ | hs
    · exact absurd hs (k3 rfl hc).1
    · exact hs
  by_cases hroom : xsC.length + ysC.length ≤ c
  · by_cases hm0 : ysC.length = 0
    · -- nothing comes
      have hy0 : ysC = [] := List.eq_nil_of_length_eq_zero hm0
      subst hy0
      have hrun := hrunof (.slice A (xsC.length + 0) c) w (run_app_room hu h1 (news := []) run_first_none (by simpa using hroom) (by cases A <;> simp [storeCells]))
      have hG2 : Good K w0 Z Sc' (.lst true (Γ.size E) A c xsC :: L) a w := by
        refine hG.beside ?_ ⟨fun hnd => by simpa [fps, fp] using hnd, fun b hb => by simpa [fps, fp] using hb⟩ ?_
        · simp only [OkL, Ok]
          have hL := ((okL_append _ _).1 hG.ok).2.2
          exact ⟨⟨⟨k1, k2, fun q hc => by have := k3 q hc; rw [hsc hc] at this; exact this⟩, hxl, by simp, k6⟩, hL⟩
        · intro u hu
          rcases List.mem_cons.1 hu with rfl | hu
          · simpa using hnr A c
          · exact hG.nr u (by simp [hu])
      refine es_value hrun (Sc' := cput o.dst (.lst true (Γ.size E) A c xsC) Sc') ?_ ?_
      · rw [er_cput, e2]; simp [er, ers]
      · have := hG2.put o.dst
        simpa [val, val1, flat] using this
    · have hc0 : c ≠ 0 := by omega
      obtain ⟨hsn, ad, cur, E', rfl, hsp, hb, hcm, hrm⟩ := k3 rfl hc0
      obtain ⟨b, hB, hcb⟩ := p4.resolve_left hm0
      subst hB
      have hse := hsc hc0
      subst hse
      have hf : (Builtin.firstCells i.size ysC.length (.slice (some b) ysC.length cb)).run P w = .ok (flats ysC).toArray w :=
        run_firstCells_some w i.size ysC.length b ysC.length cb (flats ysC) (by rw [hylen, hsz]) hcb
      have hfit : ad.off + xsC.length * Γ.size E + (flats ysC).length ≤ cur.size := by
        rw [hylen, Nat.add_assoc, ← Nat.add_mul]
        exact Nat.le_trans (Nat.add_le_add_left (Nat.mul_le_mul_right _ hroom) _) hrm
      have had : ad.add (xsC.length * i.size) = ⟨ad.block, ad.off + xsC.length * Γ.size E, none⟩ := by rw [add_eq hsp, hsz]
      obtain ⟨hst, hnew⟩ := stored_setRow (w := w) (vs := flats ysC) hb hfit
      have hone : ∀ u ∈ flats ysC, u.oneCell' = true := fun u hu => Pl.one (.agg ysC) (by simpa only [Pl] using p1) u (by simpa [flat] using hu)
      have hcell := run_storeCells_at P ad.block (ad.off + xsC.length * Γ.size E) E' (flats ysC) 0 cur w hb (by simpa using hfit) hone
      simp only [Nat.add_zero] at hcell
      obtain ⟨W, hW⟩ : ∃ W, W = w.setRow ad.block (cur.toList.take (ad.off + xsC.length * Γ.size E) ++ flats ysC ++ cur.toList.drop (ad.off + xsC.length * Γ.size E + (flats ysC).length)).toArray := ⟨_, rfl⟩
      rw [← hW] at hst hnew hcell
      have hrun := hrunof _ W (run_app_room hu h1 (news := flats ysC) hf hroom (by simp only; rw [had]; exact hcell))
      have hbfp : ad.block ∈ fp (.lst true (Γ.size E) (some ad) c xsC) := by simp [fp, hc0]
      have hndd : (fp (.lst true (Γ.size E) (some ad) c xsC)).Nodup := by
        have := hG.nodup
        simp only [fps_append, fps] at this
        exact (List.nodup_append.1 (List.nodup_append.1 this).2.1).1
      have hnx : ∀ k ∈ fps xsC, k ≠ ad.block := fun k hk e => by
        simp only [fp, hc0, or_false, Bool.true_eq_false, if_false, Option.map_some, Option.toList_some, List.singleton_append, List.nodup_cons] at hndd
        exact hndd.1 (e ▸ hk)
      have hnZ : ∀ k, Z k → k ≠ ad.block := fun k hk e => hG.apart ad.block (by simp [fps_append, fps, hbfp]) (e ▸ hk)
      have hG2 := hG.inplace (y' := .lst true (Γ.size E) (some ad) c (xsC ++ ysC)) (w' := W) hbfp (fun k hk => hst.other k hk) (by rw [hW]; exact size_setRow _ _ _) (by rw [hW]; rfl) (by rw [hW]; rfl) (by rw [hW]; rfl) ?_ ?_ (hnr _ _)
      · refine es_value hrun (Sc' := cput o.dst (.lst true (Γ.size E) (some ad) c (xsC ++ ysC)) Sc') ?_ ?_
        · rw [er_cput, e2, hres]
        · have := hG2.put o.dst
          simpa [val, val1, flat] using this
      · simp only [Ok]
        refine ⟨⟨by simpa using hroom, .inr ⟨ad, rfl, hsp, ?_, by simp⟩, fun _ _ => ?_⟩, hall, by simp, ?_⟩
        · rw [flats_append, cellsAt_append hsp]
          refine ⟨?_, ?_⟩
          · by_cases hn0 : xsC.length = 0
            · have : xsC = [] := List.eq_nil_of_length_eq_zero hn0
              subst this
              intro j u hj; simp [flats] at hj
            · obtain ⟨ad', q1, q2, q3, _⟩ := k2.resolve_left hn0
              simp only [Option.some.injEq] at q1
              subst q1
              exact hst.cellsAt hsp q3 fun _ => .inl (by rw [hxlen]; exact Nat.le_refl _)
          · rw [hxlen, add_eq hsp]; exact hnew
        · obtain ⟨cur', c1, c2⟩ := hst.hit cur E' hb
          exact ⟨hs0, ad, cur', E', rfl, hsp, c1, hcm, by rw [c2]; exact hrm⟩
        · rw [okL_append]
          exact ⟨OkL.congr (fun _ h => h) (fun k hk => hst.other k (hnZ k hk)) _ (fun k hk => hst.other k (hnx k hk)) k6, OkL.congr (fun _ h => h) (fun k hk => hst.other k (hnZ k hk)) _ (fun k hk => by rw [p2] at hk; simp at hk) p3⟩
      · rw [show fp (.lst true (Γ.size E) (some ad) c (xsC ++ ysC)) = fp (.lst true (Γ.size E) (some ad) c xsC) by simp only [fp, hfps]]
        exact Fits.refl _
  · -- a new block
    have hm0 : ysC.length ≠ 0 := by omega
    obtain ⟨b, hB, hcb⟩ := p4.resolve_left hm0
    subst hB
    have hgc := grownCap_ge w (xsC.length + ysC.length) c E
    have hgm := grownCap_le_maxLen w (xsC.length + ysC.length) c E (by unfold maxLen; omega)
    obtain ⟨g, hg⟩ : ∃ g, g = grownCap w (xsC.length + ysC.length) c E := ⟨_, rfl⟩
    have hrun : (Builtin.append_ #[T, T] o.type #[.slice A xsC.length c, .slice (some b) ysC.length cb]).run P w =
        .ok (.slice (some ⟨w.heap.size, 0, none⟩) (xsC.length + ysC.length) g) (w.drew.alloc (.cells ((flats xsC).toArray ++ (flats ysC).toArray ++ Builtin.zeroCells v.cells (g - (xsC.length + ysC.length))) E)) := by
      rw [hg]
      have hfits := growslice_fits (need := xsC.length + ysC.length) (old := c) (bytes := i.bytes) (by omega) (by rw [hby]; exact hbnd)
      cases A with
      | some ad =>
        have holds : ∀ j u, (flats xsC)[j]? = some u → w.cell? (ad.add j) = some u := by
          rcases k2 with hn0 | ⟨ad', q1, q2, q3, _⟩
          · have : xsC = [] := List.eq_nil_of_length_eq_zero hn0
            subst this
            intro j u hj; simp [flats] at hj
          · simp only [Option.some.injEq] at q1
            subst q1
            exact q3
        exact run_append_grow (P := P) w T o.type E i v hu h1 h2 ad xsC.length c (flats xsC) (by rw [hxlen, hsz]) holds b ysC.length cb (flats ysC) (by rw [hylen, hsz]) hcb (by omega) (by omega) hfits
      | none =>
        have hc0 : c = 0 := by
          by_cases hc : c = 0
          · exact hc
          · obtain ⟨_, ad, _, _, q, _⟩ := k3 rfl hc; cases q
        have hn0 : xsC.length = 0 := by omega
        have : xsC = [] := List.eq_nil_of_length_eq_zero hn0
        subst this; subst hc0
        have hr := run_append_nil (P := P) w T o.type E i v hu h1 h2 b ysC.length cb (flats ysC) (by rw [hylen, hsz]) hcb (by omega) (by have := hm; simp only [List.length_nil, Nat.zero_add] at this; omega) (by
          have := hbnd; rw [hby]; simp only [List.length_nil, Nat.zero_add] at this; omega)
        simpa [flats] using hr
    have hrun' := hrunof _ _ hrun
    rw [← hg] at hgc hgm
    have hGd : Good K w0 Z Sc' ([.lst true s A c xsC] ++ L) a w.drew := hG.world (fun _ _ => rfl) (Nat.le_refl _) rfl rfl rfl
    have hG2 := hGd.block (M := [.lst true s A c xsC]) (L := L) (c := .lst true (Γ.size E) (some ⟨w.heap.size, 0, none⟩) g (xsC ++ ysC)) (o := .cells ((flats xsC).toArray ++ (flats ysC).toArray ++ Builtin.zeroCells v.cells (g - (xsC.length + ysC.length))) E) ?_ ?_ (hnr _ _)
    · refine es_value hrun' (Sc' := cput o.dst (.lst true (Γ.size E) (some ⟨w.heap.size, 0, none⟩) g (xsC ++ ysC)) Sc') ?_ ?_
      · rw [er_cput, e2, hres]
      · have := hG2.put o.dst
        simpa [val, val1, flat] using this
    · have hg0 : g ≠ 0 := by omega
      simp only [fp, hfps, fps, List.append_nil, hg0, or_false, Bool.true_eq_false, if_false, Option.map_some, Option.toList_some, List.singleton_append]
      refine Fits.of_sublist ?_
      refine List.Sublist.cons_cons _ ?_
      exact List.sublist_append_right _ _
    · have hold : ∀ k, k < w.heap.size → (w.drew.alloc (.cells ((flats xsC).toArray ++ (flats ysC).toArray ++ Builtin.zeroCells v.cells (g - (xsC.length + ysC.length))) E)).heap[k]? = w.heap[k]? := fun k hk => heap_alloc_old w.drew _ k hk
      have hnewb := heap_alloc_new w.drew (.cells ((flats xsC).toArray ++ (flats ysC).toArray ++ Builtin.zeroCells v.cells (g - (xsC.length + ysC.length))) E)
      simp only [Ok]
      refine ⟨⟨by simpa using hgc, .inr ⟨_, rfl, rfl, ?_, by simp⟩, fun _ _ => ⟨hs0, _, _, _, rfl, rfl, hnewb, hgm, ?_⟩⟩, hall, by simp, ?_⟩
      · rw [cellsAt_iff rfl]
        intro j u hj
        have hj' := (List.getElem?_eq_some_iff.1 hj).1
        have hc : (w.drew.alloc (.cells ((flats xsC).toArray ++ (flats ysC).toArray ++ Builtin.zeroCells v.cells (g - (xsC.length + ysC.length))) E)).cell? ⟨w.heap.size, 0 + j, none⟩ =
            ((flats xsC).toArray ++ (flats ysC).toArray ++ Builtin.zeroCells v.cells (g - (xsC.length + ysC.length)))[0 + j]? := by
          simp only [World.cell?]
          have : (w.drew.alloc (.cells ((flats xsC).toArray ++ (flats ysC).toArray ++ Builtin.zeroCells v.cells (g - (xsC.length + ysC.length))) E)).heap[w.heap.size]? = _ := hnewb
          rw [this]
          simp
        rw [hc, Nat.zero_add]
        rw [flats_append] at hj hj'
        rw [Array.getElem?_append_left (by simpa using hj')]
        simpa using hj
      · simp only [Array.size_append, List.size_toArray, size_zeroCells, h4, hsz, hxlen, hylen, ← Nat.add_mul, Nat.zero_add]
        exact Nat.mul_le_mul_right _ (by omega)
      · rw [okL_append]
        have hlt : ∀ k, (k ∈ fps xsC ∨ Z k) → k < w.heap.size := fun k hk => hG.lt k (hk.imp (fun hk => by simp [fps_append, fps, fp, hk]) id)
        exact ⟨OkL.congr (fun _ h => h) (fun k hk => hold k (hlt k (.inr hk))) _ (fun k hk => hold k (hlt k (.inl hk))) k6, OkL.congr (fun _ h => h) (fun k hk => hold k (hlt k (.inr hk))) _ (fun k hk => by rw [p2] at hk; simp at hk) p3⟩

theorem ao_append (hT : TabOk P Γ) {S : List AV} {o : Oper} {T E : Nat} {x y : Operand} (ho : o.op = .call { callee := .builtin .append, args := #[x, y], argTypes := #[T, T] }) (hk : Γ.kind T = .sl E) (hE : Γ.kind E ≠ .no)
    {z : AV} (hz : Γ.zero E = some z) (hs0 : Γ.size E ≠ 0) {dv : AV} (hx : ard S x = some dv) {s : Nat} {xs S' : List AV} (ht : atake S dv = some (.lst true s xs, S')) (hs : (s = 0 ∧ xs = []) ∨ s = Γ.size E)
    {ev : AV} (hy : ard S y = some ev) {ys : List AV} (hel : aels S ev = some ys) (hys : ys.all (fun u => alen u == Γ.size E) = true)
    (hm : xs.length + ys.length ≤ 9223372036854775807) (hbnd : (xs.length + ys.length) * Γ.bytes E ≤ 140737488355328) : AO P o S (aput o.dst (.lst true (Γ.size E) (xs ++ ys)) S') :=
  es_AO fun K w0 Z Sc a w e hG => by subst e; exact append_sound hT hG ho hk hE hz hs0 hx ht hs hy hel hys hm hbnd
end
end Go.Bv
