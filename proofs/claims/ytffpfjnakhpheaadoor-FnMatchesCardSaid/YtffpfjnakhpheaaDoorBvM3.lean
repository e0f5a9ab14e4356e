/- Rules for by-value frames, generic, no program. -/
import Derived.Test.YtffpfjnakhpheaaDoorBvM2
import Derived.Laws.Append
import Derived.Laws.Tables
import Derived.Great.BuildSlice
import Derived.Laws.BytesArg
import Derived.Laws.Cover3
import Derived.Attr
/-! append. -/
namespace Go.Bv
open Go Go.RowKit
set_option linter.unusedSimpArgs false
set_option linter.unusedVariables false

mutual
/-- No list inside. -/
def leafA : AV → Bool
  | .bool _ | .int _ _ | .str _ => true
  | .agg xs => leafAs xs
  | _ => false
def leafAs : List AV → Bool
  | [] => true
  | x :: xs => leafA x && leafAs xs
end
mutual
theorem leaf_ok {w : World} {Z : Nat → Prop} : ∀ x : CV, leafA (er x) = true → Ok w Z x ∧ fp x = [] ∧ Pl x
  | .bool _, _ | .int _ _, _ | .str _, _ => by simp [Ok, fp, Pl]
  | .agg xs, h => by simp only [er, leafA] at h; have := leafs_ok (w := w) (Z := Z) xs h; simpa [Ok, fp, Pl] using this
  | .undef _, h | .lst _ _ _ _ _, h | .fn _ _, h | .ip _ _, h | .at _ _ _, h | .ref _ _ _ _ _, h | .box _ _ _, h | .tup _, h => by simp [er, leafA] at h
theorem leafs_ok {w : World} {Z : Nat → Prop} : ∀ xs : List CV, leafAs (ers xs) = true → OkL w Z xs ∧ fps xs = [] ∧ PlL xs
  | [], _ => by simp [OkL, fps, PlL]
  | x :: xs, h => by
    simp only [ers, leafAs, Bool.and_eq_true] at h
    have h1 := leaf_ok (w := w) (Z := Z) x h.1
    have h2 := leafs_ok (w := w) (Z := Z) xs h.2
    simp [OkL, fps, PlL, h1.1, h1.2.1, h1.2.2, h2.1, h2.2.1, h2.2.2]
end
/-- The elements that an operand shows, to be copied. -/
def aels (S : List AV) : AV → Option (List AV)
  | .lst o _ ys => if o = false then some ys else (match ys with | [] => some [] | _ => none)
  | .ref r p lo n => match aget S r p with
    | some (.lst true _ ys) => if leafAs ((ys.drop lo).take n) = true then some ((ys.drop lo).take n) else none
    | _ => none
  | _ => none

section
variable {K : Nat → Prop} {w0 : World} {Z : Nat → Prop} {Sc L : List CV} {a : Act} {w : World} {P : Program} {Γ : Tab}

theorem els_sound (h : Good K w0 Z Sc L a w) {y : Operand} {ev : AV} (hy : ard (ers Sc) y = some ev) {ys : List AV} (he : aels (ers Sc) ev = some ys) :
    ∃ B cb ysC, a.eval y = .slice B ysC.length cb ∧ ers ysC = ys ∧ PlL ysC ∧ fps ysC = [] ∧ OkL w Z ysC ∧ (ysC.length = 0 ∨ ∃ b, B = some b ∧ CellsAt w b (flats ysC)) := by
  obtain ⟨cy, e1, e2, hrd, _⟩ := h.rd hy
  cases ev <;> simp only [aels] at he <;> try (cases he; done)
  · rename_i o s ys0
    obtain ⟨A, cap, xs, rfl, rfl⟩ := er_lst e1
    have hk := hrd.ok
    simp only [Ok] at hk
    obtain ⟨⟨_, h2, _⟩, _, hsh, hkl⟩ := hk
    have hpl : PlL xs := by simpa only [Wf] using hrd.wf
    have hcells : xs.length = 0 ∨ ∃ b, A = some b ∧ CellsAt w b (flats xs) := by
      rcases h2 with h2 | ⟨b, q1, _, q2, _⟩
      · exact .inl h2
      · exact .inr ⟨b, q1, q2⟩
    split at he
    · rename_i ho
      simp only [Option.some.injEq] at he
      exact ⟨A, cap, xs, by rw [← e2]; rfl, he, hpl, hsh ho, hkl, hcells⟩
    · split at he
      · rename_i hnil
        simp only [Option.some.injEq] at he
        have hx : xs = [] := by cases xs <;> simp [ers] at hnil ⊢
        subst hx
        exact ⟨A, cap, [], by rw [← e2]; rfl, by rw [← he]; rfl, by simp [PlL], rfl, by simp [OkL], .inl rfl⟩
      · cases he
  · rename_i r p lo n
    obtain ⟨v, rfl⟩ := er_ref e1
    have hr := hrd.refOk
    simp only [RefOk] at hr
    obtain ⟨x0, s, A, c, xs, l, hx, hp, hg, hlo, hh⟩ := hr
    have hga : aget (ers Sc) r p = some (.lst true s (ers xs)) := by
      have := er_cget (Sc := Sc) (r := r) (p := p) (y := .lst true s A c xs) (l := l) (by simp [cget, hx, hg])
      simpa [er] using this
    rw [hga] at he
    simp only at he
    split at he
    case isFalse => cases he
    rename_i hleaf
    simp only [Option.some.injEq] at he
    have hokx := ((okL_cut hx).1 ((okL_append _ _).1 h.ok).1).2.1
    have hoky : Ok w Z (.lst true s A c xs) := ok_get p _ _ _ l hg (ok_root hokx).1
    obtain ⟨A', c', rfl, hk', _⟩ := sub_ok hoky hlo hh
    have hlen : ((xs.drop lo).take n).length = n := by simp; omega
    have hers : ers ((xs.drop lo).take n) = ((ers xs).drop lo).take n := by simp [ers_eq, List.map_take, List.map_drop]
    rw [← hers] at hleaf he
    obtain ⟨l1, l2, l3⟩ := leafs_ok (w := w) (Z := Z) _ hleaf
    refine ⟨A', c', (xs.drop lo).take n, by rw [← e2, hlen]; rfl, he, l3, l2, l1, ?_⟩
    simp only [Ok] at hk'
    rcases hk'.1.2.1 with q | ⟨b, q1, _, q2, _⟩
    · exact .inl q
    · exact .inr ⟨b, q1, q2⟩

/-- One block of what stands beside the frame is turned in place. -/
theorem Good.inplace {y y' : CV} (h : Good K w0 Z Sc (y :: L) a w) {w' : World} {b : Nat} (hb : b ∈ fp y) (hoth : ∀ k, k ≠ b → w'.heap[k]? = w.heap[k]?) (hsz : w'.heap.size = w.heap.size) (ho : w'.os = w.os) (ht : w'.tape = w.tape) (hu : w'.output = w.output)
    (hok : Ok w' Z y') (hf : Fits (fp y') (fp y)) (hn : NR y') : Good K w0 Z Sc (y' :: L) a w' := by
  have hnd := h.nodup
  simp only [fps_append, fps] at hnd
  have hsplit := List.nodup_append.1 hnd
  have hsplit2 := List.nodup_append.1 hsplit.2.1
  have nSc : ∀ k ∈ fps Sc, k ≠ b := fun k hk e => hsplit.2.2 k hk b (by simp [hb]) e
  have nL : ∀ k ∈ fps L, k ≠ b := fun k hk e => hsplit2.2.2 b hb k hk e.symm
  have nZ : ∀ k, Z k → k ≠ b := fun k hk e => h.apart b (by simp [fps_append, fps, hb]) (e ▸ hk)
  have hokS := (okL_append _ _).1 h.ok
  have hfit : Fits (fps (Sc ++ y' :: L)) (fps (Sc ++ y :: L)) := by
    simp only [fps_append, fps]
    refine ⟨fun hnd => ?_, fun x hx => ?_⟩
    · rw [List.nodup_append, List.nodup_append (l₂ := fps L)] at hnd ⊢
      obtain ⟨n1, ⟨n2, n3, n4⟩, n5⟩ := hnd
      refine ⟨n1, ⟨hf.nodup n2, n3, fun u hu v hv => n4 u (hf.sub u hu) v hv⟩, fun u hu v hv => n5 u hu v ?_⟩
      rcases List.mem_append.1 hv with hv | hv
      · exact List.mem_append.2 (.inl (hf.sub v hv))
      · exact List.mem_append.2 (.inr hv)
    · rcases List.mem_append.1 hx with hx | hx
      · exact List.mem_append.2 (.inl hx)
      · rcases List.mem_append.1 hx with hx | hx
        · exact List.mem_append.2 (.inr (List.mem_append.2 (.inl (hf.sub x hx))))
        · exact List.mem_append.2 (.inr (List.mem_append.2 (.inr hx)))
  refine { defers := h.defers, size := h.size, tmps := h.tmps, ok := ?_, nodup := hfit.nodup h.nodup, apart := fun k hk => h.apart k (hfit.sub k hk), lt := fun k hk => by rw [hsz]; exact h.lt k (hk.imp (hfit.sub k) id),
           refs := h.refs, wf := h.wf, sorted := h.sorted, nr := fun x hx => ?_, kept := fun k hk => ⟨(h.kept k hk).1, fun hm => (h.kept k hk).2.1 (hfit.sub k hm), ?_⟩, os := ho.trans h.os, tape := ht.trans h.tape, output := hu.trans h.output, grew := by rw [hsz]; exact h.grew }
  · rw [okL_append]
    simp only [OkL] at hokS ⊢
    exact ⟨OkL.congr (fun _ h => h) (fun k hk => hoth k (nZ k hk)) _ (fun k hk => hoth k (nSc k hk)) hokS.1, hok, OkL.congr (fun _ h => h) (fun k hk => hoth k (nZ k hk)) _ (fun k hk => hoth k (nL k hk)) hokS.2.2⟩
  · rcases List.mem_cons.1 hx with rfl | hx
    · exact hn
    · exact h.nr x (by simp [hx])
  · refine (hoth k fun e => ?_).trans (h.kept k hk).2.2
    exact (h.kept k hk).2.1 (by rw [e]; simp [fps_append, fps, hb])

theorem run_app_room {T E : TypeId} {i : TypeInfo} (ht : P.underlying T = some (.slice E)) (hi : P.info? E = some i) {ty : TypeId} {A B : Option Addr} {n c m cb : Nat} {news : List Value} {w' : World}
    (hf : (Builtin.firstCells i.size m (.slice B m cb)).run P w = .ok news.toArray w) (hroom : n + m ≤ c) (hst : match A with | some ad => (storeCells (ad.add (n * i.size)) news).run P w = .ok () w' | none => w' = w) :
    (Builtin.append_ #[T, T] ty #[.slice A n c, .slice B m cb]).run P w = .ok (.slice A (n + m) c) w' := by
  cases A with
  | none => simp only at hst; subst hst; simp [Builtin.append_, run_underlying ht, sizeOf, typeInfo, hi, Builtin.lenOf, hroom, hf]
  | some ad => simp only at hst; simp [Builtin.append_, run_underlying ht, sizeOf, typeInfo, hi, Builtin.lenOf, hroom, hf, hst]
theorem run_first_none {size : Nat} {B : Option Addr} {cb : Nat} : (Builtin.firstCells size 0 (.slice B 0 cb)).run P w = .ok #[] w := by
  cases B <;> simp [Builtin.firstCells, loadCells, loadCellsFrom]

theorem append_sound (hT : TabOk P Γ) (h : Good K w0 Z Sc L a w) {o : Oper} {T E : Nat} {x y : Operand} (ho : o.op = .call { callee := .builtin .append, args := #[x, y], argTypes := #[T, T] }) (hk : Γ.kind T = .sl E) (hE : Γ.kind E ≠ .no)
    {z : AV} (hz : Γ.zero E = some z) (hs0 : Γ.size E ≠ 0) {dv : AV} (hx : ard (ers Sc) x = some dv) {s : Nat} {xs S' : List AV} (ht : atake (ers Sc) dv = some (.lst true s xs, S')) (hs : (s = 0 ∧ xs = []) ∨ s = Γ.size E)
    {ev : AV} (hy : ard (ers Sc) y = some ev) {ys : List AV} (hel : aels (ers Sc) ev = some ys) (hys : ys.all (fun u => alen u == Γ.size E) = true)
    (hm : xs.length + ys.length ≤ 9223372036854775807) (hbnd : (xs.length + ys.length) * Γ.bytes E ≤ 140737488355328) :
    ES P K w0 Z L a w o (aput o.dst (.lst true (Γ.size E) (xs ++ ys)) S') := by
  obtain ⟨B, cb, ysC, vy, rfl, p1, p2, p3, p4⟩ := els_sound h hy hel
  obtain ⟨cx, rfl, vx, hrd, hnt⟩ := h.rd hx
  obtain ⟨d, Sc', e1, e2, hG, hfl, hpl, hag, _⟩ := take_good cx Sc L h hrd.refOk hrd.wf hrd.ok hrd.fp _ S' ht
  obtain ⟨A, c, xsC, rfl, rfl⟩ := er_lst e1
  have hvd : a.eval x = .slice A xsC.length c := by rw [← vx, ← val_same hfl hpl hag hnt]; rfl
  obtain ⟨hz1, i, v, h1, h2, h3, h4⟩ := hT.zero E z hz
  obtain ⟨i', h1', hsz, hby⟩ := hT.size E hE
  rw [h1] at h1'; cases h1'
  have hu := hT.sl T E hk
  have hdok : Ok w Z (.lst true s A c xsC) := ((okL_append _ _).1 hG.ok).2.1
  have hdok' := hdok
  simp only [Ok] at hdok
  obtain ⟨⟨k1, k2, k3⟩, k4, _, k6⟩ := hdok
  have hplx : PlL xsC := by simpa only [Pl] using hpl
  have hyl : ∀ u ∈ ysC, (flat u).length = Γ.size E := fun u hu => by
    have := List.all_eq_true.1 hys (er u) (by rw [ers_eq]; exact List.mem_map.2 ⟨u, hu, rfl⟩)
    rw [← alen_er]; simpa using this
  have hxl : ∀ u ∈ xsC, (flat u).length = Γ.size E := fun u hu => by
    rcases hs with ⟨_, hs⟩ | hs
    · have : xsC = [] := by cases xsC <;> simp [ers] at hs ⊢
      subst this; simp at hu
    · rw [k4 u hu, hs]
  have hlens : ∀ us : List CV, (∀ u ∈ us, (flat u).length = Γ.size E) → (flats us).length = us.length * Γ.size E := by
    intro us
    induction us with
    | nil => intro _; simp [flats]
    | cons u us ih => intro hu; simp only [flats, List.length_append, List.length_cons, hu u (by simp), ih (fun q hq => hu q (by simp [hq]))]; rw [Nat.add_mul]; omega
  have hxlen := hlens xsC hxl
  have hylen := hlens ysC hyl
  have hrunof : ∀ v' w', (Builtin.append_ #[T, T] o.type #[.slice A xsC.length c, .slice B ysC.length cb]).run P w = .ok v' w' → (execOp a.eval o).run P w = .ok (.value v') w' := by
    intro v' w' hr
    unfold execOp
    simp only [ho, resolve, invoke, builtin, Sem.run_bind, Sem.run_pure, Result.andThen_ok, List.map_toArray, List.map_cons, List.map_nil, hvd, vy, hr]
  have hersl : (ers xsC).length = xsC.length := by simp [ers_eq]
  have hersl2 : (ers ysC).length = ysC.length := by simp [ers_eq]
  rw [hersl, hersl2] at hm hbnd
  have hnr : ∀ (A' : Option Addr) (c' : Nat), NR (.lst true (Γ.size E) A' c' (xsC ++ ysC)) := fun A' c' => by
    simp only [NR, Pl]
    rw [plL_iff] at hplx p1 ⊢
    intro u hu
    rcases List.mem_append.1 hu with hu | hu
    · exact hplx u hu
    · exact p1 u hu
  have hall : ∀ u ∈ xsC ++ ysC, (flat u).length = Γ.size E := fun u hu => by
    rcases List.mem_append.1 hu with hu | hu
    · exact hxl u hu
    · exact hyl u hu
  have hfps : fps (xsC ++ ysC) = fps xsC := by rw [fps_append, p2, List.append_nil]
  have hres : ∀ (A' : Option Addr) (c' : Nat), er (.lst true (Γ.size E) A' c' (xsC ++ ysC)) = .lst true (Γ.size E) (ers xsC ++ ers ysC) := fun A' c' => by simp [er, ers_append]
  -- s is the size, or there is no room
  have hsc : c ≠ 0 → s = Γ.size E := fun hc => by
    rcases hs with ⟨hs, _⟩ | hs
    · exact absurd hs (k3 rfl hc).1
    · exact hs
  by_cases hroom : xsC.length + ysC.length ≤ c
  · by_cases hm0 : ysC.length = 0
    · -- nothing comes
      have hy0 : ysC = [] := List.eq_nil_of_length_eq_zero hm0
      subst hy0
      have hrun := hrunof (.slice A (xsC.length + 0) c) w (run_app_room hu h1 (news := []) run_first_none (by simpa using hroom) (by cases A <;> simp [storeCells]))
      have hG2 : Good K w0 Z Sc' (.lst true (Γ.size E) A c xsC :: L) a w := by
        refine hG.beside ?_ ⟨fun hnd => by simpa [fps, fp] using hnd, fun b hb => by simpa [fps, fp] using hb⟩ ?_
        · simp only [OkL, Ok]
          have hL := ((okL_append _ _).1 hG.ok).2.2
          exact ⟨⟨⟨k1, k2, fun q hc => by have := k3 q hc; rw [hsc hc] at this; exact this⟩, hxl, by simp, k6⟩, hL⟩
        · intro u hu
          rcases List.mem_cons.1 hu with rfl | hu
          · simpa using hnr A c
          · exact hG.nr u (by simp [hu])
      refine es_value hrun (Sc' := cput o.dst (.lst true (Γ.size E) A c xsC) Sc') ?_ ?_
      · rw [er_cput, e2]; simp [er, ers]
      · have := hG2.put o.dst
        simpa [val, val1, flat] using this
    · have hc0 : c ≠ 0 := by omega
      obtain ⟨hsn, ad, cur, E', rfl, hsp, hb, hcm, hrm⟩ := k3 rfl hc0
      obtain ⟨b, hB, hcb⟩ := p4.resolve_left hm0
      subst hB
      have hse := hsc hc0
      subst hse
      have hf : (Builtin.firstCells i.size ysC.length (.slice (some b) ysC.length cb)).run P w = .ok (flats ysC).toArray w :=
        run_firstCells_some w i.size ysC.length b ysC.length cb (flats ysC) (by rw [hylen, hsz]) hcb
      have hfit : ad.off + xsC.length * Γ.size E + (flats ysC).length ≤ cur.size := by
        rw [hylen, Nat.add_assoc, ← Nat.add_mul]
        exact Nat.le_trans (Nat.add_le_add_left (Nat.mul_le_mul_right _ hroom) _) hrm
      have had : ad.add (xsC.length * i.size) = ⟨ad.block, ad.off + xsC.length * Γ.size E, none⟩ := by rw [add_eq hsp, hsz]
      obtain ⟨hst, hnew⟩ := stored_setRow (w := w) (vs := flats ysC) hb hfit
      have hone : ∀ u ∈ flats ysC, u.oneCell' = true := fun u hu => Pl.one (.agg ysC) (by simpa only [Pl] using p1) u (by simpa [flat] using hu)
      have hcell := run_storeCells_at P ad.block (ad.off + xsC.length * Γ.size E) E' (flats ysC) 0 cur w hb (by simpa using hfit) hone
      simp only [Nat.add_zero] at hcell
      obtain ⟨W, hW⟩ : ∃ W, W = w.setRow ad.block (cur.toList.take (ad.off + xsC.length * Γ.size E) ++ flats ysC ++ cur.toList.drop (ad.off + xsC.length * Γ.size E + (flats ysC).length)).toArray := ⟨_, rfl⟩
      rw [← hW] at hst hnew hcell
      have hrun := hrunof _ W (run_app_room hu h1 (news := flats ysC) hf hroom (by simp only; rw [had]; exact hcell))
      have hbfp : ad.block ∈ fp (.lst true (Γ.size E) (some ad) c xsC) := by simp [fp, hc0]
      have hndd : (fp (.lst true (Γ.size E) (some ad) c xsC)).Nodup := by
        have := hG.nodup
        simp only [fps_append, fps] at this
        exact (List.nodup_append.1 (List.nodup_append.1 this).2.1).1
      have hnx : ∀ k ∈ fps xsC, k ≠ ad.block := fun k hk e => by
        simp only [fp, hc0, or_false, Bool.true_eq_false, if_false, Option.map_some, Option.toList_some, List.singleton_append, List.nodup_cons] at hndd
        exact hndd.1 (e ▸ hk)
      have hnZ : ∀ k, Z k → k ≠ ad.block := fun k hk e => hG.apart ad.block (by simp [fps_append, fps, hbfp]) (e ▸ hk)
      have hG2 := hG.inplace (y' := .lst true (Γ.size E) (some ad) c (xsC ++ ysC)) (w' := W) hbfp (fun k hk => hst.other k hk) (by rw [hW]; exact size_setRow _ _ _) (by rw [hW]; rfl) (by rw [hW]; rfl) (by rw [hW]; rfl) ?_ ?_ (hnr _ _)
      · refine es_value hrun (Sc' := cput o.dst (.lst true (Γ.size E) (some ad) c (xsC ++ ysC)) Sc') ?_ ?_
        · rw [er_cput, e2, hres]
        · have := hG2.put o.dst
          simpa [val, val1, flat] using this
      · simp only [Ok]
        refine ⟨⟨by simpa using hroom, .inr ⟨ad, rfl, hsp, ?_, by simp⟩, fun _ _ => ?_⟩, hall, by simp, ?_⟩
        · rw [flats_append, cellsAt_append hsp]
          refine ⟨?_, ?_⟩
          · by_cases hn0 : xsC.length = 0
            · have : xsC = [] := List.eq_nil_of_length_eq_zero hn0
              subst this
              intro j u hj; simp [flats] at hj
            · obtain ⟨ad', q1, q2, q3, _⟩ := k2.resolve_left hn0
              simp only [Option.some.injEq] at q1
              subst q1
              exact hst.cellsAt hsp q3 fun _ => .inl (by rw [hxlen]; exact Nat.le_refl _)
          · rw [hxlen, add_eq hsp]; exact hnew
        · obtain ⟨cur', c1, c2⟩ := hst.hit cur E' hb
          exact ⟨hs0, ad, cur', E', rfl, hsp, c1, hcm, by rw [c2]; exact hrm⟩
        · rw [okL_append]
          exact ⟨OkL.congr (fun _ h => h) (fun k hk => hst.other k (hnZ k hk)) _ (fun k hk => hst.other k (hnx k hk)) k6, OkL.congr (fun _ h => h) (fun k hk => hst.other k (hnZ k hk)) _ (fun k hk => by rw [p2] at hk; simp at hk) p3⟩
      · rw [show fp (.lst true (Γ.size E) (some ad) c (xsC ++ ysC)) = fp (.lst true (Γ.size E) (some ad) c xsC) by simp only [fp, hfps]]
        exact Fits.refl _
  · -- a new block
    have hm0 : ysC.length ≠ 0 := by omega
    obtain ⟨b, hB, hcb⟩ := p4.resolve_left hm0
    subst hB
    have hgc := grownCap_ge w (xsC.length + ysC.length) c E
    have hgm := grownCap_le_maxLen w (xsC.length + ysC.length) c E (by unfold maxLen; omega)
    obtain ⟨g, hg⟩ : ∃ g, g = grownCap w (xsC.length + ysC.length) c E := ⟨_, rfl⟩
    have hrun : (Builtin.append_ #[T, T] o.type #[.slice A xsC.length c, .slice (some b) ysC.length cb]).run P w =
        .ok (.slice (some ⟨w.heap.size, 0, none⟩) (xsC.length + ysC.length) g) (w.drew.alloc (.cells ((flats xsC).toArray ++ (flats ysC).toArray ++ Builtin.zeroCells v.cells (g - (xsC.length + ysC.length))) E)) := by
      rw [hg]
      have hfits := growslice_fits (need := xsC.length + ysC.length) (old := c) (bytes := i.bytes) (by omega) (by rw [hby]; exact hbnd)
      cases A with
      | some ad =>
        have holds : ∀ j u, (flats xsC)[j]? = some u → w.cell? (ad.add j) = some u := by
          rcases k2 with hn0 | ⟨ad', q1, q2, q3, _⟩
          · have : xsC = [] := List.eq_nil_of_length_eq_zero hn0
            subst this
            intro j u hj; simp [flats] at hj
          · simp only [Option.some.injEq] at q1
            subst q1
            exact q3
        exact run_append_grow (P := P) w T o.type E i v hu h1 h2 ad xsC.length c (flats xsC) (by rw [hxlen, hsz]) holds b ysC.length cb (flats ysC) (by rw [hylen, hsz]) hcb (by omega) (by omega) hfits
      | none =>
        have hc0 : c = 0 := by
          by_cases hc : c = 0
          · exact hc
          · obtain ⟨_, ad, _, _, q, _⟩ := k3 rfl hc; cases q
        have hn0 : xsC.length = 0 := by omega
        have : xsC = [] := List.eq_nil_of_length_eq_zero hn0
        subst this; subst hc0
        have hr := run_append_nil (P := P) w T o.type E i v hu h1 h2 b ysC.length cb (flats ysC) (by rw [hylen, hsz]) hcb (by omega) (by have := hm; simp only [List.length_nil, Nat.zero_add] at this; omega) (by
          have := hbnd; rw [hby]; simp only [List.length_nil, Nat.zero_add] at this; omega)
        simpa [flats] using hr
    have hrun' := hrunof _ _ hrun
    rw [← hg] at hgc hgm
    have hGd : Good K w0 Z Sc' ([.lst true s A c xsC] ++ L) a w.drew := hG.world (fun _ _ => rfl) (Nat.le_refl _) rfl rfl rfl
    have hG2 := hGd.block (M := [.lst true s A c xsC]) (L := L) (c := .lst true (Γ.size E) (some ⟨w.heap.size, 0, none⟩) g (xsC ++ ysC)) (o := .cells ((flats xsC).toArray ++ (flats ysC).toArray ++ Builtin.zeroCells v.cells (g - (xsC.length + ysC.length))) E) ?_ ?_ (hnr _ _)
    · refine es_value hrun' (Sc' := cput o.dst (.lst true (Γ.size E) (some ⟨w.heap.size, 0, none⟩) g (xsC ++ ysC)) Sc') ?_ ?_
      · rw [er_cput, e2, hres]
      · have := hG2.put o.dst
        simpa [val, val1, flat] using this
    · have hg0 : g ≠ 0 := by omega
      simp only [fp, hfps, fps, List.append_nil, hg0, or_false, Bool.true_eq_false, if_false, Option.map_some, Option.toList_some, List.singleton_append]
      refine Fits.of_sublist ?_
      refine List.Sublist.cons_cons _ ?_
      exact List.sublist_append_right _ _
    · have hold : ∀ k, k < w.heap.size → (w.drew.alloc (.cells ((flats xsC).toArray ++ (flats ysC).toArray ++ Builtin.zeroCells v.cells (g - (xsC.length + ysC.length))) E)).heap[k]? = w.heap[k]? := fun k hk => heap_alloc_old w.drew _ k hk
      have hnewb := heap_alloc_new w.drew (.cells ((flats xsC).toArray ++ (flats ysC).toArray ++ Builtin.zeroCells v.cells (g - (xsC.length + ysC.length))) E)
      simp only [Ok]
      refine ⟨⟨by simpa using hgc, .inr ⟨_, rfl, rfl, ?_, by simp⟩, fun _ _ => ⟨hs0, _, _, _, rfl, rfl, hnewb, hgm, ?_⟩⟩, hall, by simp, ?_⟩
      · rw [cellsAt_iff rfl]
        intro j u hj
        have hj' := (List.getElem?_eq_some_iff.1 hj).1
        have hc : (w.drew.alloc (.cells ((flats xsC).toArray ++ (flats ysC).toArray ++ Builtin.zeroCells v.cells (g - (xsC.length + ysC.length))) E)).cell? ⟨w.heap.size, 0 + j, none⟩ =
            ((flats xsC).toArray ++ (flats ysC).toArray ++ Builtin.zeroCells v.cells (g - (xsC.length + ysC.length)))[0 + j]? := by
          simp only [World.cell?]
          have : (w.drew.alloc (.cells ((flats xsC).toArray ++ (flats ysC).toArray ++ Builtin.zeroCells v.cells (g - (xsC.length + ysC.length))) E)).heap[w.heap.size]? = _ := hnewb
          rw [this]
          simp
        rw [hc, Nat.zero_add]
        rw [flats_append] at hj hj'
        rw [Array.getElem?_append_left (by simpa using hj')]
        simpa using hj
      · simp only [Array.size_append, List.size_toArray, size_zeroCells, h4, hsz, hxlen, hylen, ← Nat.add_mul, Nat.zero_add]
        exact Nat.mul_le_mul_right _ (by omega)
      · rw [okL_append]
        have hlt : ∀ k, (k ∈ fps xsC ∨ Z k) → k < w.heap.size := fun k hk => hG.lt k (hk.imp (fun hk => by simp [fps_append, fps, fp, hk]) id)
        exact ⟨OkL.congr (fun _ h => h) (fun k hk => hold k (hlt k (.inr hk))) _ (fun k hk => hold k (hlt k (.inl hk))) k6, OkL.congr (fun _ h => h) (fun k hk => hold k (hlt k (.inr hk))) _ (fun k hk => by rw [p2] at hk; simp at hk) p3⟩

theorem ao_append (hT : TabOk P Γ) {S : List AV} {o : Oper} {T E : Nat} {x y : Operand} (ho : o.op = .call { callee := .builtin .append, args := #[x, y], argTypes := #[T, T] }) (hk : Γ.kind T = .sl E) (hE : Γ.kind E ≠ .no)
    {z : AV} (hz : Γ.zero E = some z) (hs0 : Γ.size E ≠ 0) {dv : AV} (hx : ard S x = some dv) {s : Nat} {xs S' : List AV} (ht : atake S dv = some (.lst true s xs, S')) (hs : (s = 0 ∧ xs = []) ∨ s = Γ.size E)
    {ev : AV} (hy : ard S y = some ev) {ys : List AV} (hel : aels S ev = some ys) (hys : ys.all (fun u => alen u == Γ.size E) = true)
    (hm : xs.length + ys.length ≤ 9223372036854775807) (hbnd : (xs.length + ys.length) * Γ.bytes E ≤ 140737488355328) : AO P o S (aput o.dst (.lst true (Γ.size E) (xs ++ ys)) S') :=
  es_AO fun K w0 Z Sc a w e hG => by subst e; exact append_sound hT hG ho hk hE hz hs0 hx ht hs hy hel hys hm hbnd
end
end Go.Bv

/-! Struct and slice literals. -/
namespace Go.Bv
open Go Go.RowKit
set_option linter.unusedSimpArgs false
set_option linter.unusedVariables false

/-- All these are set. -/
def setAll : List CV → List (Nat × CV) → List CV
  | xs, [] => xs
  | xs, (i, c) :: ps => setAll (xs.set i c) ps
def asetAll : List AV → List (Nat × AV) → List AV
  | xs, [] => xs
  | xs, (i, c) :: ps => asetAll (xs.set i c) ps
theorem ers_set (xs : List CV) (i : Nat) (c : CV) : ers (xs.set i c) = (ers xs).set i (er c) := by simp [ers_eq, List.map_set]
theorem er_setAll : ∀ (ps : List (Nat × CV)) (xs : List CV), ers (setAll xs ps) = asetAll (ers xs) (ps.map fun p => (p.1, er p.2))
  | [], _ => rfl
  | (i, c) :: ps, xs => by simp only [setAll, List.map_cons, asetAll]; rw [er_setAll ps, ers_set]
theorem flats_len (xs : List CV) : (flats xs).length = (xs.map fun x => (flat x).length).sum := by
  induction xs <;> simp [flats, *]
theorem fps_set (xs : List CV) (i : Nat) (c : CV) : Fits (fps (xs.set i c)) (fp c ++ fps xs) := by
  cases hx : xs[i]? with
  | none =>
    rw [List.set_eq_of_length_le (by simpa using hx)]
    exact Fits.of_sublist (List.sublist_append_right _ _)
  | some x =>
    rw [set_at c hx]
    conv => rhs; rw [cut_at hx]
    simp only [fps_append, fps]
    refine Fits.trans (b := fp c ++ (fps (xs.take i) ++ fps (xs.drop (i + 1)))) (Fits.of_perm ?_) (Fits.of_sublist ?_)
    · rw [← List.append_assoc, ← List.append_assoc]
      exact List.Perm.append_right _ List.perm_append_comm
    · exact List.Sublist.append_left (List.Sublist.append_left (List.sublist_append_right _ _) _) _
theorem fps_setAll : ∀ (ps : List (Nat × CV)) (xs : List CV), Fits (fps (setAll xs ps)) (fps (ps.map (·.2)) ++ fps xs)
  | [], xs => by simpa [setAll, fps] using Fits.refl _
  | (i, c) :: ps, xs => by
    simp only [setAll, List.map_cons, fps]
    refine (fps_setAll ps (xs.set i c)).trans ?_
    have h1 := fps_set xs i c
    refine Fits.trans (b := fps (ps.map (·.2)) ++ (fp c ++ fps xs)) ⟨fun hnd => ?_, fun b hb => ?_⟩ (Fits.of_perm ?_)
    · rw [List.nodup_append] at hnd ⊢
      exact ⟨hnd.1, h1.nodup hnd.2.1, fun u hu v hv => hnd.2.2 u hu v (h1.sub v hv)⟩
    · rcases List.mem_append.1 hb with hb | hb
      · exact List.mem_append.2 (.inl hb)
      · exact List.mem_append.2 (.inr (h1.sub b hb))
    · rw [← List.append_assoc]
      exact List.Perm.append_right _ List.perm_append_comm
theorem mem_setAll {u : CV} : ∀ (ps : List (Nat × CV)) (xs : List CV), u ∈ setAll xs ps → u ∈ xs ∨ ∃ p ∈ ps, p.2 = u
  | [], xs, h => .inl h
  | (i, c) :: ps, xs, h => by
    rcases mem_setAll ps (xs.set i c) h with h | ⟨p, hp, e⟩
    · rcases List.mem_or_eq_of_mem_set h with h | rfl
      · exact .inl h
      · exact .inr ⟨(i, u), by simp, rfl⟩
    · exact .inr ⟨p, by simp [hp], e⟩
theorem setAll_len : ∀ (ps : List (Nat × CV)) (xs : List CV), (setAll xs ps).length = xs.length
  | [], _ => rfl
  | (i, c) :: ps, xs => by simp only [setAll]; rw [setAll_len ps, List.length_set]

theorem fold_seg : ∀ (vs : List Value) (k off : Nat) (cells : Array Value), off + k + vs.length ≤ cells.size →
    ((vs.zipIdx k).foldl (fun (cs : Array Value) (x : Value × Nat) => cs.setIfInBounds (off + x.2) x.1) cells) = (cells.toList.take (off + k) ++ vs ++ cells.toList.drop (off + k + vs.length)).toArray
  | [], k, off, cells, h => by simp
  | v :: vs, k, off, cells, h => by
    simp only [List.zipIdx_cons, List.foldl_cons]
    rw [fold_seg vs (k + 1) off _ (by simp at h ⊢; omega)]
    congr 1
    simp only [List.length_cons] at h
    have hlt : off + k < cells.toList.length := by simp; omega
    rw [Array.toList_setIfInBounds]
    have e1 : (cells.toList.set (off + k) v).take (off + (k + 1)) = cells.toList.take (off + k) ++ [v] := by
      rw [List.set_eq_take_append_cons_drop, if_pos hlt, show off + (k + 1) = off + k + 1 by omega, List.take_append]
      simp only [List.length_take, Nat.min_eq_left (Nat.le_of_lt hlt)]
      rw [show off + k + 1 - (off + k) = 1 by omega, List.take_of_length_le (by simp; omega)]
      simp
    have e2 : (cells.toList.set (off + k) v).drop (off + (k + 1) + vs.length) = cells.toList.drop (off + k + (v :: vs).length) := by
      rw [List.drop_set_of_lt (by omega)]
      congr 1
      simp; omega
    rw [e1, e2]
    simp

/-- The parts fall where they should. -/
theorem fill_flats {place : Nat → Option (Nat × Nat)} (ls : List Nat) (hpl : ∀ i n, ls[i]? = some n → place i = some ((ls.take i).sum, n)) :
    ∀ (ps : List (Nat × CV)) (xs : List CV), (xs.map fun x => (flat x).length) = ls → (∀ p ∈ ps, Pl p.2 ∧ ls[p.1]? = some (flat p.2).length) →
      Instr.fill place (flats xs).toArray (ps.map fun p => (p.1, val p.2)) = some (flats (setAll xs ps)).toArray
  | [], xs, _, _ => by simp [Instr.fill, setAll]
  | (i, c) :: ps, xs, hl, hp => by
    obtain ⟨h1, h2⟩ := hp (i, c) (by simp)
    simp only at h1 h2
    obtain ⟨x, hx, hxl⟩ : ∃ x, xs[i]? = some x ∧ (flat x).length = (flat c).length := by
      rw [← hl, List.getElem?_map] at h2
      cases hx : xs[i]? with
      | none => simp [hx] at h2
      | some x => simp only [hx, Option.map_some, Option.some.injEq] at h2; exact ⟨x, rfl, h2⟩
    have hcut : flats xs = flats (xs.take i) ++ (flat x ++ flats (xs.drop (i + 1))) := by
      conv => lhs; rw [cut_at hx]
      rw [flats_append]; simp only [flats]
    have hoff : (ls.take i).sum = (flats (xs.take i)).length := by rw [flats_len, List.map_take, hl]
    have hsz : (flats xs).length = (flats (xs.take i)).length + ((flat c).length + (flats (xs.drop (i + 1))).length) := by rw [hcut]; simp [hxl]
    simp only [List.map_cons, Instr.fill, hpl i _ h2, cells_val h1, hoff]
    have hg : (((flat c).toArray.size ≠ (flat c).length) || decide ((flats (xs.take i)).length + (flat c).toArray.size > (flats xs).toArray.size)) = false := by
      simp; omega
    rw [if_neg (by simpa using hg)]
    have hf : ((flat c).toArray.zipIdx.foldl (fun (cs : Array Value) (x : Value × Nat) => cs.setIfInBounds ((flats (xs.take i)).length + x.2) x.1) (flats xs).toArray) = (flats (xs.set i c)).toArray := by
      rw [← Array.foldl_toList, Array.toList_zipIdx]
      rw [fold_seg (flat c) 0 _ _ (by simp; omega), flats_set hx]
      congr 1
      simp only [Nat.add_zero]
      rw [hcut, List.take_append_of_le_length (Nat.le_refl _), List.take_length]
      rw [← List.append_assoc (flats (xs.take i)) (flat x), List.drop_append]
      simp [hxl]
    have hl2 : ((xs.set i c).map fun x => (flat x).length) = ls := by
      rw [List.map_set, hl]
      apply List.ext_getElem?
      intro j
      rw [List.getElem?_set]
      split
      · rename_i e; subst e
        split
        · exact h2.symm
        · rename_i hn; rw [List.getElem?_eq_none (by omega)] at h2; cases h2
      · rfl
    have := fill_flats ls hpl ps (xs.set i c) hl2 (fun p hp' => hp p (by simp [hp']))
    simp only [setAll]
    rw [← this]
    congr 1

/-- The table of a struct's fields is in order. -/
def bldOk (Γ : Tab) (T : Nat) (fs : List Nat) (zs : List AV) : Bool :=
  zs.length == fs.length && (List.range zs.length).all fun i => match fs[i]?, zs[i]? with
    | some t, some z => Γ.kind t != .no && Γ.size t == alen z && Γ.off T i == ((zs.take i).map alen).sum
    | _, _ => false
/-- The parts are as long as what they replace. -/
def bldChk (zs : List AV) : List (Nat × AV) → Bool
  | [] => true
  | (i, v) :: ps => (match zs[i]? with | some z => alen v == alen z | none => false) && bldChk zs ps
theorem bldChk_at {zs : List AV} : ∀ {ps : List (Nat × AV)}, bldChk zs ps = true → ∀ p ∈ ps, ∃ z, zs[p.1]? = some z ∧ alen p.2 = alen z
  | (i, v) :: ps, h, p, hp => by
    simp only [bldChk, Bool.and_eq_true] at h
    rcases List.mem_cons.1 hp with rfl | hp
    · cases hz : zs[i]? with
      | none => simp [hz] at h
      | some z => simp only [hz, beq_iff_eq] at h; exact ⟨z, rfl, h.1⟩
    · exact bldChk_at h.2 p hp

section
variable {K : Nat → Prop} {w0 : World} {Z : Nat → Prop} {Sc L : List CV} {a : Act} {w : World} {P : Program} {Γ : Tab}

theorem places_some : ∀ (fs : List Field), (∀ f ∈ fs, ∃ i, P.info? f.type = some i ∧ i.size = Γ.size f.type) → fs.mapM (fun f => (P.info? f.type).map fun i => (f.offset, i.size)) = some (fs.map fun f => (f.offset, Γ.size f.type))
  | [], _ => by simp
  | f :: fs, h => by
    obtain ⟨i, h1, h2⟩ := h f (by simp)
    simp [List.mapM_cons, h1, h2, places_some fs (fun g hg => h g (by simp [hg]))]

/-- What the operands of a literal are, taken. -/
theorem parts_good (h : Good K w0 Z Sc L a w) {xs : List Operand} {vs : List AV} (hvs : ards (ers Sc) xs = some vs) {vs' S' : List AV} (ht : atakes (ers Sc) vs = some (vs', S')) :
    ∃ ys Sc', ers ys = vs' ∧ ers Sc' = S' ∧ Good K w0 Z Sc' (ys ++ L) a w ∧ PlL ys ∧ ys.map val = xs.map a.eval := by
  obtain ⟨cs, rfl, h2, h3⟩ := ards_sound h _ _ hvs
  have hfp : fps cs = [] := by
    clear hvs ht h2
    induction cs with
    | nil => rfl
    | cons c cs ih => simp [fps, (h3 c (by simp)).1.fp, ih (fun c hc => h3 c (by simp [hc]))]
  have key : ∀ (cs : List CV) (Sc : List CV) (L : List CV), Good K w0 Z Sc L a w → RefOkL Sc cs → WfL cs → OkL w Z cs → fps cs = [] → (∀ c ∈ cs, ∀ xs, c ≠ .tup xs) → ∀ vs' S', atakes (ers Sc) (ers cs) = some (vs', S') →
      ∃ ys Sc', ers ys = vs' ∧ ers Sc' = S' ∧ Good K w0 Z Sc' (ys ++ L) a w ∧ PlL ys ∧ ys.map val = cs.map val := by
    intro cs
    induction cs with
    | nil =>
      intro Sc L h _ _ _ _ _ vs' S' ht
      simp only [ers, atakes, Option.some.injEq, Prod.mk.injEq] at ht
      obtain ⟨rfl, rfl⟩ := ht
      exact ⟨[], Sc, rfl, rfl, h, by simp [PlL], rfl⟩
    | cons x xs ih =>
      intro Sc L h hr hw hk hf hnt vs' S' ht
      simp only [RefOkL] at hr
      simp only [WfL] at hw
      simp only [OkL] at hk
      simp only [fps, List.append_eq_nil_iff] at hf
      simp only [ers, atakes] at ht
      split at ht
      · cases ht
      rename_i hno
      have hno' : ∀ rp ∈ refs x, hits rp.1 rp.2 xs = false := by
        intro rp hrp
        simp only [refs_er, List.any_eq_true, not_exists, not_and, hits_er] at hno
        simpa using hno rp hrp
      cases htx : atake (ers Sc) (er x) with
      | none => simp [htx] at ht
      | some yS =>
        obtain ⟨y', S1⟩ := yS
        simp only [htx] at ht
        obtain ⟨y, Sc1, e1, e2, hG, hfl, hpl, hag, hrf⟩ := take_good x Sc L h hr.1 hw.1 hk.1 hf.1 y' S1 htx
        have hr2 : RefOkL Sc1 xs := by
          rw [refOkL_iff] at hr ⊢
          intro u hu
          refine hrf u (hr.2 u hu) fun rp hrp => ?_
          exact hits_mem hu (hno' rp hrp)
        rw [← e2] at ht
        cases hts : atakes (ers Sc1) (ers xs) with
        | none => simp [hts] at ht
        | some ysS =>
          obtain ⟨ys', S2⟩ := ysS
          simp only [hts, Option.some.injEq, Prod.mk.injEq] at ht
          obtain ⟨rfl, rfl⟩ := ht
          obtain ⟨ys, Sc2, f1, f2, hG2, hpl2, hv2⟩ := ih Sc1 (y :: L) hG hr2 hw.2 hk.2 hf.2 (fun c hc => hnt c (by simp [hc])) _ _ hts
          refine ⟨y :: ys, Sc2, by simp [ers, e1, f1], f2, ?_, by simp [PlL, hpl, hpl2], by simp [hv2, val_same hfl hpl hag (hnt x (by simp))]⟩
          refine hG2.beside ?_ ?_ ?_
          · have := ((okL_append _ _).1 hG2.ok).2
            rw [okL_append] at this
            simp only [OkL] at this
            simp only [List.cons_append, OkL, okL_append]
            exact ⟨this.2.1, this.1, this.2.2⟩
          · simp only [List.cons_append, fps, fps_append]
            refine Fits.of_perm ?_
            rw [← List.append_assoc, ← List.append_assoc]
            exact List.Perm.append_right _ List.perm_append_comm
          · intro z hz
            refine hG2.nr z ?_
            simp only [List.cons_append, List.mem_cons, List.mem_append] at hz ⊢
            rcases hz with hz | hz | hz
            · exact .inr (.inl hz)
            · exact .inl hz
            · exact .inr (.inr hz)
  obtain ⟨ys, Sc', f1, f2, hG, hpl, hv⟩ := key cs Sc L h ((refOkL_iff _).2 fun c hc => (h3 c hc).1.refOk) ((wfL_iff _).2 fun c hc => (h3 c hc).1.wf) ((okL_iff _).2 fun c hc => (h3 c hc).1.ok) hfp (fun c hc => (h3 c hc).2) _ _ ht
  exact ⟨ys, Sc', f1, f2, hG, hpl, by rw [hv, h2]⟩

theorem zip_parts (ps : List (Nat × Operand)) (ys : List CV) (h : ys.map val = (ps.map (·.2)).map a.eval) :
    (((ps.map (·.1)).zip ys).map fun p => (p.1, val p.2)) = ps.map fun p => (p.1, a.eval p.2) := by
  induction ps generalizing ys with
  | nil => simp
  | cons p ps ih =>
    cases ys with
    | nil => simp at h
    | cons y ys =>
      simp only [List.map_cons, List.cons.injEq] at h
      simp [h.1, ih ys h.2]
theorem zip_snd (is : List Nat) (ys : List CV) : (((is.zip ys).map (·.2))).Sublist ys := by
  induction is generalizing ys with
  | nil => simp
  | cons i is ih =>
    cases ys with
    | nil => simp
    | cons y ys => simpa using ih ys
theorem zip_er (is : List Nat) (ys : List CV) : ((is.zip ys).map fun p => (p.1, er p.2)) = is.zip (ers ys) := by
  induction is generalizing ys with
  | nil => simp
  | cons i is ih =>
    cases ys with
    | nil => simp [ers]
    | cons y ys => simp [ers, ih]
theorem fps_sublist {xs ys : List CV} (h : xs.Sublist ys) : (fps xs).Sublist (fps ys) := by
  induction h with
  | slnil => simp
  | cons _ _ ih => simp only [fps]; exact ih.trans (List.sublist_append_right _ _)
  | cons_cons _ _ ih => simp only [fps]; exact List.Sublist.append_left ih _

/-- What a literal's parts come to, set into zeros. -/
theorem setAll_good {zs : List AV} {cz ys : List CV} (hz : ers cz = zs) (hzf : fps cz = []) (hzp : PlL cz) (hzk : ∀ w Z, OkL w Z cz) (hy : PlL ys) (is : List Nat) {w' : World} (hyk : OkL w' Z ys) (hc : bldChk zs (is.zip (ers ys)) = true) :
    OkL w' Z (setAll cz (is.zip ys)) ∧ Fits (fps (setAll cz (is.zip ys))) (fps ys) ∧ PlL (setAll cz (is.zip ys)) ∧ ers (setAll cz (is.zip ys)) = asetAll zs (is.zip (ers ys)) ∧
      ∀ p ∈ is.zip ys, Pl p.2 ∧ (cz.map fun x => (flat x).length)[p.1]? = some (flat p.2).length := by
  have hmem : ∀ u, (∃ p ∈ is.zip ys, p.2 = u) → u ∈ ys := fun u ⟨p, hp, e⟩ => e ▸ (List.of_mem_zip hp).2
  refine ⟨?_, ?_, ?_, ?_, ?_⟩
  · rw [okL_iff]
    intro u hu
    rcases mem_setAll _ _ hu with hu | hu
    · exact (okL_iff _).1 (hzk _ _) u hu
    · exact (okL_iff _).1 hyk u (hmem u hu)
  · have := fps_setAll (is.zip ys) cz
    rw [hzf, List.append_nil] at this
    exact this.trans (Fits.of_sublist (fps_sublist (zip_snd is ys)))
  · rw [plL_iff]
    intro u hu
    rcases mem_setAll _ _ hu with hu | hu
    · exact (plL_iff _).1 hzp u hu
    · exact (plL_iff _).1 hy u (hmem u hu)
  · rw [er_setAll, hz, zip_er]
  · intro p hp
    refine ⟨(plL_iff _).1 hy _ (List.of_mem_zip hp).2, ?_⟩
    obtain ⟨z, h1, h2⟩ := bldChk_at hc (p.1, er p.2) (by rw [← zip_er]; exact List.mem_map.2 ⟨p, hp, rfl⟩)
    simp only at h1 h2
    rw [← hz, ers_eq, List.getElem?_map] at h1
    rw [List.getElem?_map]
    cases hq : cz[p.1]? with
    | none => simp [hq] at h1
    | some q => simp only [hq, Option.map_some, Option.some.injEq] at h1 ⊢; rw [← h1, alen_er, alen_er] at h2; exact h2.symm

theorem build_sound (hT : TabOk P Γ) (h : Good K w0 Z Sc L a w) {o : Oper} {T : Nat} {parts : Array (Nat × Operand)} (ho : o.op = .build T parts) {fs : List Nat} (hk : Γ.kind T = .st fs) {zs : List AV} (hz : Γ.zero T = some (.agg zs))
    (hb : bldOk Γ T fs zs = true) {vs : List AV} (hvs : ards (ers Sc) (parts.toList.map (·.2)) = some vs) {vs' S' : List AV} (ht : atakes (ers Sc) vs = some (vs', S')) (hc : bldChk zs ((parts.toList.map (·.1)).zip vs') = true) :
    ES P K w0 Z L a w o (aput o.dst (.agg (asetAll zs ((parts.toList.map (·.1)).zip vs'))) S') := by
  obtain ⟨ys, Sc', rfl, e2, hG, hpl, hv⟩ := parts_good h hvs ht
  obtain ⟨hz1, i, v, h1, h2, h3, h4⟩ := hT.zero T _ hz
  obtain ⟨c0, q1, q2, q3, q4, q5⟩ := zcells_ok _ hz1
  obtain ⟨cz, rfl, q1'⟩ := er_agg q1
  obtain ⟨F, hu, hF, hall⟩ := hT.st T fs hk
  simp only [bldOk, Bool.and_eq_true, beq_iff_eq, List.all_eq_true, List.mem_range] at hb
  obtain ⟨hb1, hb2⟩ := hb
  have hbi : ∀ j, j < zs.length → ∃ t z, fs[j]? = some t ∧ zs[j]? = some z ∧ Γ.kind t ≠ .no ∧ Γ.size t = alen z ∧ Γ.off T j = ((zs.take j).map alen).sum := by
    intro j hj
    have := hb2 j hj
    rw [List.getElem?_eq_getElem hj, List.getElem?_eq_getElem (by omega)] at this
    simp only [Bool.and_eq_true, bne_iff_ne, beq_iff_eq] at this
    exact ⟨_, _, List.getElem?_eq_getElem (by omega), List.getElem?_eq_getElem hj, this.1.1, this.1.2, this.2⟩
  have hls : (cz.map fun x => (flat x).length) = zs.map alen := by
    rw [← q1', ers_eq, List.map_map]
    apply List.map_congr_left
    intro x _
    simp [alen_er]
  have hplace : P.built T (parts.toList.map fun p => (p.1, a.eval p.2)) = some (flats (setAll cz ((parts.toList.map (·.1)).zip ys))).toArray := by
    have hpm := places_some (P := P) (Γ := Γ) F.toList (fun f hf => by
      obtain ⟨j, hj⟩ := List.mem_iff_getElem?.1 hf
      have hjl := (List.getElem?_eq_some_iff.1 hj).1
      rw [Array.length_toList, hF, ← hb1] at hjl
      obtain ⟨t, z, p1, p2, p3, p4, p5⟩ := hbi j hjl
      obtain ⟨fd, r1, r2, r3⟩ := hall j t p1
      have : f = fd := by rw [Array.getElem?_toList, r1] at hj; simpa using hj.symm
      subst this
      obtain ⟨ii, s1, s2, _⟩ := hT.size t p3
      exact ⟨ii, by rw [r2]; exact s1, by rw [r2]; exact s2⟩)
    have hcells : v.cells = (flats cz).toArray := by
      have : v.cells.toList = flats cz := by rw [h3, ← q2]; rfl
      rw [← this]
    simp only [Program.built, h1, hu, h2, hpm, hcells]
    rw [← zip_parts parts.toList ys hv]
    refine fill_flats (zs.map alen) (fun j n hj => ?_) _ cz hls (fun p hp => ?_)
    · have hjl : j < zs.length := by have := (List.getElem?_eq_some_iff.1 hj).1; simpa using this
      obtain ⟨t, z, p1, p2, p3, p4, p5⟩ := hbi j hjl
      obtain ⟨fd, r1, r2, r3⟩ := hall j t p1
      rw [List.getElem?_map, p2, Option.map_some, Option.some.injEq] at hj
      simp only [List.getElem?_toArray, List.getElem?_map, Array.getElem?_toList, r1, Option.map_some]
      rw [r3, p5, r2, p4, hj, List.map_take]
    · have := (setAll_good (Z := Z) (w' := w) q1' (by simpa [fp] using q4) (by simpa only [Pl] using q3) (fun w Z => by have := q5 w Z; simpa only [Ok] using this) hpl (parts.toList.map (·.1)) (((okL_append _ _).1 ((okL_append _ _).1 hG.ok).2).1) hc).2.2.2.2 p hp
      rw [hls] at this
      exact this
  obtain ⟨g1, g2, g3, g4, _⟩ := setAll_good (Z := Z) (w' := w) q1' (by simpa [fp] using q4) (by simpa only [Pl] using q3) (fun w Z => by have := q5 w Z; simpa only [Ok] using this) hpl (parts.toList.map (·.1)) (((okL_append _ _).1 ((okL_append _ _).1 hG.ok).2).1) hc
  have hG2 : Good K w0 Z Sc' (.agg (setAll cz ((parts.toList.map (·.1)).zip ys)) :: L) a w := by
    refine hG.beside ?_ ?_ ?_
    · simp only [OkL, Ok]
      exact ⟨g1, ((okL_append _ _).1 ((okL_append _ _).1 hG.ok).2).2⟩
    · simp only [fps, fp, fps_append]
      refine ⟨fun hnd => ?_, fun b hb => ?_⟩
      · rw [List.nodup_append] at hnd ⊢
        exact ⟨g2.nodup hnd.1, hnd.2.1, fun u hu v hv => hnd.2.2 u (g2.sub u hu) v hv⟩
      · rcases List.mem_append.1 hb with hb | hb
        · exact List.mem_append.2 (.inl (g2.sub b hb))
        · exact List.mem_append.2 (.inr hb)
    · intro u hu
      rcases List.mem_cons.1 hu with rfl | hu
      · simpa only [NR, Pl] using g3
      · exact hG.nr u (by simp [hu])
  refine es_value (v := .agg (flats (setAll cz ((parts.toList.map (·.1)).zip ys))).toArray) (w' := w) ?_ (Sc' := cput o.dst (.agg (setAll cz ((parts.toList.map (·.1)).zip ys))) Sc') ?_ ?_
  · unfold execOp
    have hr := run_build (P := P) w T (parts.map fun p => (p.1, a.eval p.2)) _ (by rw [Array.toList_map]; exact hplace)
    simp only [ho, Sem.run_bind]
    have e : (parts.map fun (x : Nat × Operand) => (x.1, a.eval x.2)) = parts.map fun p => (p.1, a.eval p.2) := rfl
    first
    | rw [hr]; rfl
    | (simp only [hr, Result.andThen_ok]; rfl)
  · rw [er_cput, e2]; simp [er, g4]
  · exact hG2.put o.dst

theorem buildSlice_sound (hT : TabOk P Γ) (h : Good K w0 Z Sc L a w) {o : Oper} {T E n : Nat} {parts : Array (Nat × Operand)} (ho : o.op = .buildSlice T n parts) (hk : Γ.kind T = .sl E) (hE : Γ.kind E ≠ .no) {z : AV} (hz : Γ.zero E = some z)
    (hs0 : Γ.size E ≠ 0) (hn : n * Γ.size E ≤ 16777216) {vs : List AV} (hvs : ards (ers Sc) (parts.toList.map (·.2)) = some vs) {vs' S' : List AV} (ht : atakes (ers Sc) vs = some (vs', S')) (hc : bldChk (List.replicate n z) ((parts.toList.map (·.1)).zip vs') = true) :
    ES P K w0 Z L a w o (aput o.dst (.lst true (Γ.size E) (asetAll (List.replicate n z) ((parts.toList.map (·.1)).zip vs'))) S') := by
  obtain ⟨ys, Sc', rfl, e2, hG, hpl, hv⟩ := parts_good h hvs ht
  obtain ⟨hz1, i, v, h1, h2, h3, h4⟩ := hT.zero E _ hz
  obtain ⟨i', h1', hsz, hby⟩ := hT.size E hE
  rw [h1] at h1'; cases h1'
  obtain ⟨c0, q1, q2, q3, q4, q5⟩ := zcells_ok _ hz1
  have hu := hT.sl T E hk
  have hcl : (flat c0).length = i.size := by rw [q2, ← h3, Array.length_toList, h4]
  have hzl : ers (List.replicate n c0) = List.replicate n z := by rw [ers_rep, q1]
  have hrep : OkL w Z (List.replicate n c0) := (okL_iff _).2 fun u hu => by rw [List.eq_of_mem_replicate hu]; exact q5 _ _
  have hplr : PlL (List.replicate n c0) := (plL_iff _).2 fun u hu => by rw [List.eq_of_mem_replicate hu]; exact q3
  have hyk : OkL w Z ys := ((okL_append _ _).1 ((okL_append _ _).1 hG.ok).2).1
  obtain ⟨g1, g2, g3, g4, g5⟩ := setAll_good (Z := Z) (w' := w) hzl (fps_rep n c0 q4) hplr (fun w Z => (okL_iff _).2 fun u hu => by rw [List.eq_of_mem_replicate hu]; exact q5 _ _) hpl (parts.toList.map (·.1)) hyk hc
  obtain ⟨cs, hcs⟩ : ∃ cs, cs = setAll (List.replicate n c0) ((parts.toList.map (·.1)).zip ys) := ⟨_, rfl⟩
  have hlen : cs.length = n := by rw [hcs, setAll_len]; simp
  have hlens : (List.map (fun x => (flat x).length) (List.replicate n c0)) = List.replicate n i.size := by simp [hcl]
  have hall : ∀ u ∈ cs, (flat u).length = i.size := fun u hu => by
    rw [hcs] at hu
    rcases mem_setAll _ _ hu with hu | ⟨p, hp, rfl⟩
    · rw [List.eq_of_mem_replicate hu]; exact hcl
    · have := (g5 p hp).2
      rw [hlens, List.getElem?_replicate] at this
      split at this
      · simpa using this.symm
      · cases this
  have hcells : ∀ j u, (flats cs)[j]? = some u → (flats cs).toArray[j]? = some u := fun j u hj => by rw [List.getElem?_toArray]; exact hj
  have hfl : (flats cs).length = n * i.size := by
    have : ∀ us : List CV, (∀ u ∈ us, (flat u).length = i.size) → (flats us).length = us.length * i.size := by
      intro us
      induction us with
      | nil => intro _; simp [flats]
      | cons u us ih => intro hu; simp only [flats, List.length_append, List.length_cons, hu u (by simp), ih (fun q hq => hu q (by simp [hq]))]; rw [Nat.add_mul]; omega
    rw [this cs hall, hlen]
  have hrun : (Instr.buildSlice T n (parts.map fun p => (p.1, a.eval p.2))).run P w = .ok (.slice (some ⟨w.heap.size, 0, none⟩) n n) (w.alloc (.cells (flats cs).toArray E)) := by
    have hps : (parts.map fun p => (p.1, a.eval p.2)).toList = (((parts.toList.map (·.1)).zip ys).map fun p => (p.1, val p.2)) := by rw [Array.toList_map, zip_parts parts.toList ys hv]
    by_cases hn0 : n = 0
    · subst hn0
      have hnil : ((parts.toList.map (·.1)).zip ys) = [] := by
        cases hq : (parts.toList.map (·.1)).zip ys with
        | nil => rfl
        | cons p ps =>
          have := (g5 p (by rw [hq]; simp)).2
          simp at this
      rw [hnil, List.map_nil] at hps
      have hcsn : cs = [] := List.eq_nil_of_length_eq_zero hlen
      subst hcsn
      have hps' : parts.toList.map (fun p => (p.1, a.eval p.2)) = [] := by rw [← Array.toList_map]; exact hps
      have hr0 : Array.range 0 = #[] := rfl
      simp [Instr.buildSlice, run_underlying hu, sizeOf, typeInfo, h1, hps', hr0, Instr.fill, run_newRow, flats]
    · have hpos : ¬ n * i.size = 0 := by rw [hsz]; exact Nat.mul_ne_zero hn0 hs0
      refine run_buildSlice (P := P) w T E n _ _ i v hu h1 h2 (by rw [hsz]; omega) hpos ?_
      rw [hps]
      have hz0 : (Array.range (n * i.size)).map (v.cells[· % v.cells.size]!) = (flats (List.replicate n c0)).toArray := by
        apply Array.ext'
        apply List.ext_getElem?
        intro j
        have hfr : (flats (List.replicate n c0)).length = n * i.size := by
          rw [flats_len]; simp [hcl]
        by_cases hj : j < n * i.size
        · have hj2 : (flats (List.replicate n c0))[j]? = some ((flats (List.replicate n c0))[j]'(by omega)) := List.getElem?_eq_getElem _
          obtain ⟨r1, _⟩ := flats_rep c0 n j _ hj2
          rw [hcl] at r1
          have hs0' : j % i.size < v.cells.size := by rw [h4]; exact Nat.mod_lt _ (by omega)
          rw [q2, ← h3, Array.getElem?_toList, Array.getElem?_eq_getElem hs0'] at r1
          have hr : (Array.range (n * i.size))[j]? = some j := by simp [hj]
          simp only [Array.getElem?_toList, Array.getElem?_map, hr, Option.map_some, h4]
          rw [getElem!_pos v.cells _ hs0', hj2]
          exact r1
        · rw [List.getElem?_eq_none (by simp; omega), List.getElem?_eq_none (by simp; omega)]
      rw [hz0, hcs]
      refine fill_flats (List.replicate n i.size) (fun j m hj => ?_) _ _ hlens (fun p hp => by rw [← hlens]; exact g5 p hp)
      rw [List.getElem?_replicate] at hj
      split at hj
      · rename_i hjn
        simp only [Option.some.injEq] at hj
        subst hj
        rw [List.take_replicate, List.sum_replicate_nat, Nat.min_eq_left (Nat.le_of_lt hjn)]
      · cases hj
  rw [← hcs] at g1 g2 g3 g4
  have hG2 := hG.block (M := ys) (L := L) (c := .lst true i.size (some ⟨w.heap.size, 0, none⟩) n cs) (o := .cells (flats cs).toArray E) ?_ ?_ ?_
  · refine es_value (v := .slice (some ⟨w.heap.size, 0, none⟩) n n) (w' := w.alloc (.cells (flats cs).toArray E)) ?_ (Sc' := cput o.dst (.lst true i.size (some ⟨w.heap.size, 0, none⟩) n cs) Sc') ?_ ?_
    · unfold execOp
      simp only [ho, Sem.run_bind]
      first
      | rw [hrun]; rfl
      | (simp only [hrun, Result.andThen_ok]; rfl)
    · rw [er_cput, e2]; simp [er, g4, hsz]
    · have := hG2.put o.dst
      simpa [val, val1, flat, hlen] using this
  · simp only [fp]
    refine ⟨fun hnd => ?_, fun b hb => ?_⟩
    · have hn2 := List.nodup_cons.1 hnd
      split
      · simpa using g2.nodup hn2.2
      · simp only [Option.map_some, Option.toList_some, List.singleton_append]
        exact List.nodup_cons.2 ⟨fun hm => hn2.1 (g2.sub _ hm), g2.nodup hn2.2⟩
    · split at hb
      · simp only [List.nil_append] at hb; exact List.mem_cons_of_mem _ (g2.sub b hb)
      · simp only [Option.map_some, Option.toList_some, List.singleton_append, List.mem_cons] at hb
        rcases hb with rfl | hb
        · simp
        · exact List.mem_cons_of_mem _ (g2.sub b hb)
  · have hnewb := heap_alloc_new w (.cells (flats cs).toArray E)
    have hold : ∀ k, k < w.heap.size → (w.alloc (.cells (flats cs).toArray E)).heap[k]? = w.heap[k]? := fun k hk => heap_alloc_old w _ k hk
    simp only [Ok]
    refine ⟨⟨by omega, ?_, fun _ hc0 => ⟨by rw [hsz]; exact hs0, _, _, _, rfl, rfl, hnewb, ?_, ?_⟩⟩, hall, by simp, ?_⟩
    · refine .inr ⟨_, rfl, rfl, ?_, by simp⟩
      rw [cellsAt_iff rfl]
      intro j u hj
      simp only [World.cell?, hnewb, Option.isSome_none, Bool.false_eq_true, if_false, Nat.zero_add]
      exact hcells j u hj
    · have : n * 1 ≤ n * Γ.size E := Nat.mul_le_mul_left _ (by omega)
      unfold maxLen; omega
    · simp [hfl]
    · have hlt : ∀ k, (k ∈ fps ys ∨ Z k) → k < w.heap.size := fun k hk => hG.lt k (hk.imp (fun hk => by simp [fps_append, hk]) id)
      exact OkL.congr (fun _ h => h) (fun k hk => hold k (hlt k (.inr hk))) _ (fun k hk => hold k (hlt k (.inl (g2.sub k hk)))) g1
  · simpa only [NR, Pl] using g3

theorem ao_build (hT : TabOk P Γ) {S : List AV} {o : Oper} {T : Nat} {parts : Array (Nat × Operand)} (ho : o.op = .build T parts) {fs : List Nat} (hk : Γ.kind T = .st fs) {zs : List AV} (hz : Γ.zero T = some (.agg zs))
    (hb : bldOk Γ T fs zs = true) {vs : List AV} (hvs : ards S (parts.toList.map (·.2)) = some vs) {vs' S' : List AV} (ht : atakes S vs = some (vs', S')) (hc : bldChk zs ((parts.toList.map (·.1)).zip vs') = true) :
    AO P o S (aput o.dst (.agg (asetAll zs ((parts.toList.map (·.1)).zip vs'))) S') :=
  es_AO fun K w0 Z Sc a w e hG => by subst e; exact build_sound hT hG ho hk hz hb hvs ht hc
theorem ao_buildSlice (hT : TabOk P Γ) {S : List AV} {o : Oper} {T E n : Nat} {parts : Array (Nat × Operand)} (ho : o.op = .buildSlice T n parts) (hk : Γ.kind T = .sl E) (hE : Γ.kind E ≠ .no) {z : AV} (hz : Γ.zero E = some z)
    (hs0 : Γ.size E ≠ 0) (hn : n * Γ.size E ≤ 16777216) {vs : List AV} (hvs : ards S (parts.toList.map (·.2)) = some vs) {vs' S' : List AV} (ht : atakes S vs = some (vs', S')) (hc : bldChk (List.replicate n z) ((parts.toList.map (·.1)).zip vs') = true) :
    AO P o S (aput o.dst (.lst true (Γ.size E) (asetAll (List.replicate n z) ((parts.toList.map (·.1)).zip vs'))) S') :=
  es_AO fun K w0 Z Sc a w e hG => by subst e; exact buildSlice_sound hT hG ho hk hE hz hs0 hn hvs ht hc
end
end Go.Bv

/-! Lending a place of the frame to a call that may turn what lies there. -/
namespace Go.Bv
open Go Go.RowKit
set_option linter.unusedSimpArgs false
set_option linter.unusedVariables false

/-- A way through structs alone. -/
def aggPath : AV → List Nat → Bool
  | _, [] => true
  | .agg xs, i :: q => match xs[i]? with | some z => aggPath z q | none => false
  | _, _ :: _ => false
mutual
/-- The same but for what lies behind the lists' headers. -/
def skA : AV → AV → Bool
  | .lst o s _, z => match z with | .lst o' s' _ => o == o' && s == s' | _ => false
  | .agg xs, z => match z with | .agg ys => skAs xs ys | _ => false
  | x, z => match z with | .lst _ _ _ => false | .agg _ => false | _ => true
def skAs : List AV → List AV → Bool
  | [], ys => match ys with | [] => true | _ => false
  | x :: xs, ys => match ys with | y :: ys => skA x y && skAs xs ys | [] => false
end
mutual
theorem sk_len : ∀ (x y : CV), skA (er x) (er y) = true → (flat x).length = (flat y).length
  | .lst _ _ _ _ _, y, h => by cases y <;> simp_all [er, skA, flat]
  | .agg xs, y, h => by
    cases y <;> simp only [er, skA] at h <;> try (cases h; done)
    simp only [flat]; exact sks_len xs _ h
  | .undef _, y, h | .bool _, y, h | .int _ _, y, h | .str _, y, h | .tup _, y, h | .fn _ _, y, h | .ip _ _, y, h | .at _ _ _, y, h | .ref _ _ _ _ _, y, h | .box _ _ _, y, h => by
    cases y <;> simp_all [er, skA, flat]
theorem sks_len : ∀ (xs ys : List CV), skAs (ers xs) (ers ys) = true → (flats xs).length = (flats ys).length
  | [], [], _ => rfl
  | [], _ :: _, h => by simp [ers, skAs] at h
  | _ :: _, [], h => by simp [ers, skAs] at h
  | x :: xs, y :: ys, h => by
    simp only [ers, skAs, Bool.and_eq_true] at h
    simp only [flats, List.length_append, sk_len x y h.1, sks_len xs ys h.2]
end
mutual
/-- .. and the headers are the same. -/
def SkC : CV → CV → Prop
  | .lst o s A c xs, z => ∃ ys, z = .lst o s A c ys ∧ ys.length = xs.length
  | .agg xs, z => ∃ ys, z = .agg ys ∧ SkCs xs ys
  | x, z => (flat z).length = 1 ∧ (∀ ys, z ≠ .agg ys)
def SkCs : List CV → List CV → Prop
  | [], ys => ys = []
  | x :: xs, ys => ∃ y zs, ys = y :: zs ∧ SkC x y ∧ SkCs xs zs
end
mutual
theorem skC_of : ∀ (x y : CV), skA (er x) (er y) = true → flat y = flat x → SkC x y
  | .lst o s A c xs, y, h, hf => by
    cases y <;> simp only [er, skA, Bool.and_eq_true, beq_iff_eq] at h <;> try (cases h; done)
    rename_i o' s' A' c' ys
    simp only [flat, List.cons.injEq, Value.slice.injEq, and_true] at hf
    obtain ⟨rfl, rfl⟩ := h
    obtain ⟨rfl, hl, rfl⟩ := hf
    exact ⟨ys, rfl, hl⟩
  | .agg xs, y, h, hf => by
    cases y <;> simp only [er, skA] at h <;> try (cases h; done)
    rename_i ys
    simp only [flat] at hf
    exact ⟨ys, rfl, skCs_of xs ys h hf⟩
  | .undef _, y, h, hf | .bool _, y, h, hf | .int _ _, y, h, hf | .str _, y, h, hf | .tup _, y, h, hf | .fn _ _, y, h, hf | .ip _ _, y, h, hf | .at _ _ _, y, h, hf | .ref _ _ _ _ _, y, h, hf | .box _ _ _, y, h, hf => by
    cases y <;> simp_all [er, skA, SkC, flat]
theorem skCs_of : ∀ (xs ys : List CV), skAs (ers xs) (ers ys) = true → flats ys = flats xs → SkCs xs ys
  | [], [], _, _ => rfl
  | [], _ :: _, h, _ => by simp [ers, skAs] at h
  | _ :: _, [], h, _ => by simp [ers, skAs] at h
  | x :: xs, y :: ys, h, hf => by
    simp only [ers, skAs, Bool.and_eq_true] at h
    simp only [flats] at hf
    obtain ⟨h1, h2⟩ := List.append_inj hf (sk_len x y h.1).symm
    exact ⟨y, ys, rfl, skC_of x y h.1 h1, skCs_of xs ys h.2 h2⟩
end
mutual
theorem skC_len : ∀ (x y : CV), SkC x y → (flat y).length = (flat x).length
  | .lst _ _ _ _ _, _, ⟨_, h, _⟩ => by subst h; simp [flat]
  | .agg xs, _, ⟨ys, h, hs⟩ => by subst h; simp only [flat]; exact skCs_len xs ys hs
  | .undef _, _, h | .bool _, _, h | .int _ _, _, h | .str _, _, h | .tup _, _, h | .fn _ _, _, h | .ip _ _, _, h | .at _ _ _, _, h | .ref _ _ _ _ _, _, h | .box _ _ _, _, h => by
    simp only [SkC] at h; simp [flat, h.1]
theorem skCs_len : ∀ (xs ys : List CV), SkCs xs ys → (flats ys).length = (flats xs).length
  | [], _, h => by simp only [SkCs] at h; subst h; rfl
  | x :: xs, _, ⟨y, zs, h, h1, h2⟩ => by subst h; simp only [flats, List.length_append, skC_len x y h1, skCs_len xs zs h2]
end
theorem skCs_at : ∀ {xs ys : List CV} {i : Nat} {x : CV}, SkCs xs ys → xs[i]? = some x → ∃ y, ys[i]? = some y ∧ SkC x y ∧ (flats (ys.take i)).length = (flats (xs.take i)).length
  | [], _, _, _, _, h => by simp at h
  | x0 :: xs, ys, 0, x, ⟨y, zs, e, h1, _⟩, h => by
    simp only [List.getElem?_cons_zero, Option.some.injEq] at h
    subst h; subst e
    exact ⟨y, rfl, h1, by simp⟩
  | x0 :: xs, ys, i + 1, x, ⟨y, zs, e, h1, h2⟩, h => by
    subst e
    obtain ⟨z, k1, k2, k3⟩ := skCs_at h2 (by simpa using h)
    refine ⟨z, by simpa using k1, k2, ?_⟩
    simp only [List.take_succ_cons, flats, List.length_append, k3]
    have := skC_len x0 y h1
    omega
theorem get_sk : ∀ (q : List Nat) (x y : CV) (l : Option Addr) (z : CV) (lz : Option Addr), SkC x y → aggPath (er x) q = true → cgetN x l q = some (z, lz) → ∃ z', cgetN y l q = some (z', lz) ∧ SkC z z'
  | [], x, y, l, z, lz, h, _, hg => by
    simp only [cgetN, Option.some.injEq, Prod.mk.injEq] at hg
    obtain ⟨rfl, rfl⟩ := hg
    exact ⟨y, rfl, h⟩
  | i :: q, x, y, l, z, lz, h, hp, hg => by
    cases x <;> simp only [er, aggPath] at hp <;> try (cases hp; done)
    rename_i xs
    obtain ⟨ys, rfl, hs⟩ := h
    simp only [cgetN] at hg ⊢
    cases hx : xs[i]? with
    | none => simp [hx] at hg
    | some u =>
      simp only [hx] at hg
      rw [ers_eq, List.getElem?_map, hx] at hp
      simp only [Option.map_some] at hp
      obtain ⟨v, k1, k2, k3⟩ := skCs_at hs hx
      rw [k1, k3]
      exact get_sk q u v _ z lz k2 hp hg

mutual
/-- What is left of a value when its lists are lent. -/
def cstrip : CV → CV
  | .lst true _ A c xs => .undef (.slice A xs.length c)
  | .agg xs => .agg (cstrips xs)
  | x => x
def cstrips : List CV → List CV
  | [] => []
  | x :: xs => cstrip x :: cstrips xs
end
mutual
theorem cstrip_flat : ∀ x : CV, flat (cstrip x) = flat x
  | .lst o s A c xs => by cases o <;> simp [cstrip, flat]
  | .agg xs => by simp only [cstrip, flat]; exact cstrips_flat xs
  | .undef _ | .bool _ | .int _ _ | .str _ | .tup _ | .fn _ _ | .ip _ _ | .at _ _ _ | .ref _ _ _ _ _ | .box _ _ _ => by simp [cstrip]
theorem cstrips_flat : ∀ xs : List CV, flats (cstrips xs) = flats xs
  | [] => rfl
  | x :: xs => by simp only [cstrips, flats, cstrip_flat x, cstrips_flat xs]
end
mutual
theorem cstrip_ok {w : World} {Z : Nat → Prop} : ∀ x : CV, Pl x → Ok w Z x → Ok w Z (cstrip x) ∧ fp (cstrip x) = [] ∧ Pl (cstrip x) ∧ ((∃ ys, cstrip x = .agg ys) ↔ ∃ ys, x = .agg ys)
  | .lst o s A c xs, hp, hk => by
    cases o
    · have h' := hk
      simp only [Ok] at h'
      simp only [cstrip]
      refine ⟨hk, ?_, hp, ?_⟩
      · simp [fp, h'.2.2.1]
      · simp
    · simp [cstrip, Ok, fp, Pl, Value.oneCell']
  | .agg xs, hp, hk => by
    simp only [Pl] at hp
    simp only [Ok] at hk
    have := cstrips_ok xs hp hk
    simp only [cstrip, Ok, fp, Pl]
    exact ⟨this.1, this.2.1, this.2.2, by simp⟩
  | .fn f xs, hp, hk => by
    have h' := hk
    simp only [Ok] at h'
    exact ⟨by simpa only [cstrip] using hk, by simp [cstrip, fp, h'.1], by simpa only [cstrip] using hp, by simp [cstrip]⟩
  | .ip a x, hp, hk => ⟨by simpa only [cstrip] using hk, by simp [cstrip, fp], by simpa only [cstrip] using hp, by simp [cstrip]⟩
  | .undef v, hp, _ => ⟨by simp [cstrip, Ok], by simp [cstrip, fp], by simpa only [cstrip] using hp, by simp [cstrip]⟩
  | .bool _, _, _ | .int _ _, _, _ | .str _, _, _ => by simp [cstrip, Ok, fp, Pl]
  | .box _ _ _, hp, _ | .tup _, hp, _ | .at _ _ _, hp, _ | .ref _ _ _ _ _, hp, _ => by simp [Pl] at hp
theorem cstrips_ok {w : World} {Z : Nat → Prop} : ∀ xs : List CV, PlL xs → OkL w Z xs → OkL w Z (cstrips xs) ∧ fps (cstrips xs) = [] ∧ PlL (cstrips xs)
  | [], _, _ => ⟨by simp [cstrips, OkL], rfl, by simp [cstrips, PlL]⟩
  | x :: xs, hp, hk => by
    simp only [PlL] at hp
    simp only [OkL] at hk
    have a := cstrip_ok (w := w) (Z := Z) x hp.1 hk.1
    have b := cstrips_ok (w := w) (Z := Z) xs hp.2 hk.2
    simp only [cstrips, OkL, fps, PlL]
    exact ⟨⟨a.1, b.1⟩, by simp [a.2.1, b.2.1], ⟨a.2.2.1, b.2.2⟩⟩
end

theorem get_in : ∀ (p q : List Nat) (x : CV) (l : Option Addr) (y : CV) (l' : Option Addr), cgetN x l p = some (y, l') → cgetN x l (p ++ q) = cgetN y l' q
  | [], q, x, l, y, l', h => by simp only [cgetN, Option.some.injEq, Prod.mk.injEq] at h; rw [h.1, h.2]; rfl
  | i :: p, q, x, l, y, l', h => by
    cases x <;> simp only [cgetN] at h <;> try (cases h; done)
    · rename_i o s A c xs
      simp only [List.cons_append, cgetN]
      split at h
      · cases h
      rename_i ho
      rw [if_neg ho]
      cases hu : xs[i]? with
      | none => simp [hu] at h
      | some u => simp only [hu] at h ⊢; exact get_in p q u _ y l' h
    · rename_i xs
      simp only [List.cons_append, cgetN]
      cases hu : xs[i]? with
      | none => simp [hu] at h
      | some u => simp only [hu] at h ⊢; exact get_in p q u _ y l' h
theorem get_set_in : ∀ (p q : List Nat) (x : CV) (l : Option Addr) (y : CV) (l' : Option Addr) (d : CV), cgetN x l p = some (y, l') → cgetN (csetN x p d) l (p ++ q) = cgetN d l' q
  | [], q, x, l, y, l', d, h => by simp only [cgetN, Option.some.injEq, Prod.mk.injEq] at h; rw [h.2]; rfl
  | i :: p, q, x, l, y, l', d, h => by
    cases x <;> simp only [cgetN] at h <;> try (cases h; done)
    · rename_i o s A c xs
      split at h
      · cases h
      rename_i ho
      cases hu : xs[i]? with
      | none => simp [hu] at h
      | some u =>
        simp only [hu] at h
        simp only [csetN, hu, List.cons_append, cgetN, if_neg ho]
        rw [List.getElem?_set_self (List.getElem?_eq_some_iff.1 hu).1]
        exact get_set_in p q u _ y l' d h
    · rename_i xs
      cases hu : xs[i]? with
      | none => simp [hu] at h
      | some u =>
        simp only [hu] at h
        simp only [csetN, hu, List.cons_append, cgetN]
        rw [List.getElem?_set_self (List.getElem?_eq_some_iff.1 hu).1]
        have : (xs.set i (csetN u p d)).take i = xs.take i := by rw [List.take_set_of_le (Nat.le_refl _)]
        rw [this]
        exact get_set_in p q u _ y l' d h
theorem set_set : ∀ (p : List Nat) (x : CV) (l : Option Addr) (y : CV) (l' : Option Addr) (d e : CV), cgetN x l p = some (y, l') → csetN (csetN x p d) p e = csetN x p e
  | [], _, _, _, _, _, _, _ => rfl
  | i :: p, x, l, y, l', d, e, h => by
    cases x <;> simp only [cgetN] at h <;> try (cases h; done)
    · rename_i o s A c xs
      split at h
      · cases h
      cases hu : xs[i]? with
      | none => simp [hu] at h
      | some u =>
        simp only [hu] at h
        simp only [csetN, hu]
        rw [List.getElem?_set_self (List.getElem?_eq_some_iff.1 hu).1]
        simp only [List.set_set]
        rw [set_set p u _ y l' d e h]
    · rename_i xs
      cases hu : xs[i]? with
      | none => simp [hu] at h
      | some u =>
        simp only [hu] at h
        simp only [csetN, hu]
        rw [List.getElem?_set_self (List.getElem?_eq_some_iff.1 hu).1]
        simp only [List.set_set]
        rw [set_set p u _ y l' d e h]

mutual
/-- Leans on what lies behind a list's header within the place. -/
def hin (r : Nat) (p : List Nat) (y : AV) : CV → Bool
  | .ref r' q _ _ _ => r == r' && p.isPrefixOf q && !aggPath y (q.drop p.length)
  | .at r' q _ => r == r' && p.isPrefixOf q && !aggPath y (q.drop p.length)
  | .agg xs => hins r p y xs
  | .tup xs => hins r p y xs
  | .fn _ xs => hins r p y xs
  | .ip _ x => hin r p y x
  | _ => false
def hins (r : Nat) (p : List Nat) (y : AV) : List CV → Bool
  | [] => false
  | x :: xs => hin r p y x || hins r p y xs
end
mutual
def hinA (r : Nat) (p : List Nat) (y : AV) : AV → Bool
  | .ref r' q _ _ => r == r' && p.isPrefixOf q && !aggPath y (q.drop p.length)
  | .at r' q => r == r' && p.isPrefixOf q && !aggPath y (q.drop p.length)
  | .agg xs => hinAs r p y xs
  | .tup xs => hinAs r p y xs
  | .fn _ xs => hinAs r p y xs
  | .ip x => hinA r p y x
  | _ => false
def hinAs (r : Nat) (p : List Nat) (y : AV) : List AV → Bool
  | [] => false
  | x :: xs => hinA r p y x || hinAs r p y xs
end
mutual
theorem hin_er (r : Nat) (p : List Nat) (y : AV) : ∀ x : CV, hinA r p y (er x) = hin r p y x
  | .agg xs | .tup xs | .fn _ xs => by simp only [er, hinA, hin, hins_er r p y xs]
  | .ip _ x => by simp only [er, hinA, hin, hin_er r p y x]
  | .undef _ | .bool _ | .int _ _ | .str _ | .lst _ _ _ _ _ | .at _ _ _ | .ref _ _ _ _ _ | .box _ _ _ => by simp [er, hinA, hin]
theorem hins_er (r : Nat) (p : List Nat) (y : AV) : ∀ xs : List CV, hinAs r p y (ers xs) = hins r p y xs
  | [] => rfl
  | x :: xs => by simp only [ers, hinAs, hins, hin_er r p y x, hins_er r p y xs]
end
mutual
theorem Pl.hin (r : Nat) (p : List Nat) (y : AV) : ∀ x : CV, Pl x → hin r p y x = false
  | .agg xs, h | .fn _ xs, h => by simp only [Pl] at h; simp only [Bv.hin]; exact PlL.hin r p y xs h
  | .ip _ x, h => by simp only [Pl] at h; simp only [Bv.hin]; exact Pl.hin r p y x h
  | .undef _, _ | .bool _, _ | .int _ _, _ | .str _, _ | .lst _ _ _ _ _, _ => by simp [Bv.hin]
  | .tup _, h | .at _ _ _, h | .ref _ _ _ _ _, h | .box _ _ _, h => by simp [Pl] at h
theorem PlL.hin (r : Nat) (p : List Nat) (y : AV) : ∀ xs : List CV, PlL xs → hins r p y xs = false
  | [], _ => rfl
  | x :: xs, h => by simp only [PlL] at h; simp [Bv.hins, Pl.hin r p y x h.1, PlL.hin r p y xs h.2]
end
theorem root_hin {r : Nat} {p : List Nat} {y : AV} {x : CV} (h : Pl (rootC x).1) : hin r p y x = false := by
  cases x <;> first | (simp [Bv.hin]; done) | exact Pl.hin r p y _ h

/-- Given back. -/
def cback (Sc : List CV) (r : Nat) (p : List Nat) (y : AV) (x0 d : CV) : List CV := (Sc.map fun x => if hin r p y x then .undef (val x) else x).set r (csetR x0 p d)
def aback (S : List AV) (r : Nat) (p : List Nat) (y : AV) (d : AV) : List AV :=
  match S[r]? with
  | some x0 => (S.map fun x => if hinA r p y x then .undef else x).set r (asetR x0 p d)
  | none => S
theorem er_cback {Sc : List CV} {r : Nat} {p : List Nat} {y : AV} {x0 d : CV} (hx : Sc[r]? = some x0) : ers (cback Sc r p y x0 d) = aback (ers Sc) r p y (er d) := by
  have hx' : (ers Sc)[r]? = some (er x0) := by rw [ers_eq, List.getElem?_map, hx]; rfl
  simp only [cback, aback, hx', ers_set, er_csetR]
  congr 1
  simp only [ers_eq, List.map_map]
  apply List.map_congr_left
  intro x _
  simp only [Function.comp, hin_er]
  split <;> simp [er]
end Go.Bv

/-! Calls that turn what they are lent. -/
namespace Go.Bv
open Go Go.RowKit
set_option linter.unusedSimpArgs false
set_option linter.unusedVariables false

section
variable {K : Nat → Prop} {w0 : World} {Z : Nat → Prop} {Sc L : List CV} {a : Act} {w : World} {P : Program} {Γ : Tab}

theorem cback_slot {r : Nat} {p : List Nat} {y : AV} {x0 d : CV} (hx : Sc[r]? = some x0) (t : Nat) :
    (cback Sc r p y x0 d)[t]? = if t = r then some (csetR x0 p d) else (Sc[t]?).map fun x => if hin r p y x then .undef (val x) else x := by
  have hrl := (List.getElem?_eq_some_iff.1 hx).1
  unfold cback
  by_cases e : t = r
  · subst e; rw [List.getElem?_set_self (by simpa using hrl), if_pos rfl]
  · rw [List.getElem?_set_ne (Ne.symm e), if_neg e, List.getElem?_map]

mutual
theorem RefOk.back {r : Nat} {p : List Nat} {y d x0 : CV} {l : Option Addr} (hx : Sc[r]? = some x0) (hp : Pl (rootC x0).1) (hd : Pl d) (hg : cgetN (rootC x0).1 (rootC x0).2 p = some (y, l)) (hs : SkC y d) :
    ∀ x : CV, hin r p (er y) x = false → RefOk Sc x → RefOk (cback Sc r p (er y) x0 d) x
  | .at r' q a, hh, h => by
    simp only [Bv.hin] at hh
    simp only [RefOk] at h ⊢
    obtain ⟨x1, y1, h1, h2, h3⟩ := h
    by_cases e : r' = r
    · subst e
      rw [hx] at h1; cases h1
      have hroot : Pl (rootC (csetR x0 p d)).1 := by rw [rootC_csetR hp hd]; exact Pl.set p _ d hp hd
      by_cases hpq : p.isPrefixOf q = true
      · obtain ⟨q', rfl⟩ := List.isPrefixOf_iff_prefix.1 hpq
        have hag : aggPath (er y) q' = true := by simpa [hpq] using hh
        rw [get_in p q' _ _ y l hg] at h3
        obtain ⟨z', g1, _⟩ := get_sk q' y d l y1 _ hs hag h3
        exact ⟨csetR x0 p d, z', by rw [cback_slot hx, if_pos rfl], hroot, by rw [rootC_csetR hp hd]; rw [get_set_in p q' _ _ y l d hg]; exact g1⟩
      · obtain ⟨z', g1, g2, g3⟩ := get_set p q _ _ y l d y1 _ hg (skC_len y d hs) h3 (fun h' => absurd h' hpq)
        exact ⟨csetR x0 p d, z', by rw [cback_slot hx, if_pos rfl], hroot, by rw [rootC_csetR hp hd]; exact g1⟩
    · refine ⟨x1, y1, ?_, h2, h3⟩
      rw [cback_slot hx, if_neg e, h1]
      simp [root_hin h2]
  | .ref r' q lo n v, hh, h => by
    simp only [Bv.hin] at hh
    simp only [RefOk] at h ⊢
    obtain ⟨x1, s, A, c, xs, l1, h1, h2, h3, h4, h5⟩ := h
    by_cases e : r' = r
    · subst e
      rw [hx] at h1; cases h1
      have hroot : Pl (rootC (csetR x0 p d)).1 := by rw [rootC_csetR hp hd]; exact Pl.set p _ d hp hd
      by_cases hpq : p.isPrefixOf q = true
      · obtain ⟨q', rfl⟩ := List.isPrefixOf_iff_prefix.1 hpq
        have hag : aggPath (er y) q' = true := by simpa [hpq] using hh
        rw [get_in p q' _ _ y l hg] at h3
        obtain ⟨z', g1, g2⟩ := get_sk q' y d l _ _ hs hag h3
        obtain ⟨ys, rfl, hlen⟩ := g2
        exact ⟨csetR x0 p d, s, A, c, ys, l1, by rw [cback_slot hx, if_pos rfl], hroot, by rw [rootC_csetR hp hd]; rw [get_set_in p q' _ _ y l d hg]; exact g1, by omega, h5⟩
      · have hne : p ≠ q := fun e => hpq (by rw [← e]; exact List.isPrefixOf_iff_prefix.2 (List.prefix_refl p))
        obtain ⟨z', g1, g2, g3⟩ := get_set p q _ _ y l d _ _ hg (skC_len y d hs) h3 (fun h' => absurd h' hpq)
        obtain ⟨ys, rfl, hlen⟩ := g3 hne
        exact ⟨csetR x0 p d, s, A, c, ys, l1, by rw [cback_slot hx, if_pos rfl], hroot, by rw [rootC_csetR hp hd]; exact g1, by omega, h5⟩
    · refine ⟨x1, s, A, c, xs, l1, ?_, h2, h3, h4, h5⟩
      rw [cback_slot hx, if_neg e, h1]
      simp [root_hin h2]
  | .agg xs, hh, h => by simp only [Bv.hin, RefOk] at hh h ⊢; exact RefOkL.back hx hp hd hg hs xs hh h
  | .tup xs, hh, h => by simp only [Bv.hin, RefOk] at hh h ⊢; exact RefOkL.back hx hp hd hg hs xs hh h
  | .fn _ xs, hh, h => by simp only [Bv.hin, RefOk] at hh h ⊢; exact RefOkL.back hx hp hd hg hs xs hh h
  | .ip _ x, hh, h => by simp only [Bv.hin, RefOk] at hh h ⊢; exact RefOk.back hx hp hd hg hs x hh h
  | .undef _, _, _ | .bool _, _, _ | .int _ _, _, _ | .str _, _, _ | .lst _ _ _ _ _, _, _ | .box _ _ _, _, _ => by simp [RefOk]
theorem RefOkL.back {r : Nat} {p : List Nat} {y d x0 : CV} {l : Option Addr} (hx : Sc[r]? = some x0) (hp : Pl (rootC x0).1) (hd : Pl d) (hg : cgetN (rootC x0).1 (rootC x0).2 p = some (y, l)) (hs : SkC y d) :
    ∀ xs : List CV, hins r p (er y) xs = false → RefOkL Sc xs → RefOkL (cback Sc r p (er y) x0 d) xs
  | [], _, _ => by simp [RefOkL]
  | x :: xs, hh, h => by
    simp only [hins, Bool.or_eq_false_iff] at hh
    simp only [RefOkL] at h ⊢
    exact ⟨RefOk.back hx hp hd hg hs x hh.1 h.1, RefOkL.back hx hp hd hg hs xs hh.2 h.2⟩
end

/-- What is left behind a call that was lent y, and gives d back: the result c beside the frame. -/
theorem Good.lend (h : Good K w0 Z Sc [] a w) {r : Nat} {p : List Nat} {x0 y : CV} {l : Option Addr} (hx : Sc[r]? = some x0) (hp : Pl (rootC x0).1) (hg : cgetN (rootC x0).1 (rootC x0).2 p = some (y, l))
    {w' : World} {Z' : Nat → Prop} {c d : CV} (hz1 : ∀ b, Z b → Z' b) (hz2 : ∀ b, Z' b → (Z b ∨ w.heap.size ≤ b) ∧ b < w'.heap.size) (hok : OkL w' Z' [c, d]) (hap : ∀ b ∈ fps [c, d], ¬ Z' b) (hnc : NR c) (hd : Pl d)
    (hnd : (fps [c, d]).Nodup) (hown : ∀ b ∈ fps [c, d], (b ∈ fp y ∨ w.heap.size ≤ b) ∧ b < w'.heap.size) (hsame : ∀ b, b < w.heap.size → b ∉ fp y → w'.heap[b]? = w.heap[b]?)
    (hgr : w.heap.size ≤ w'.heap.size) (ho : w'.os = w.os) (ht : w'.tape = w.tape) (hu : w'.output = w.output) (hfl : flat d = flat y) (hsk : skA (er y) (er d) = true) (hagg : (∃ xs, y = .agg xs) ↔ (∃ xs, d = .agg xs)) :
    Good K w0 Z' (cback Sc r p (er y) x0 d) [c] a w' := by
  have hs := skC_of y d hsk hfl
  have hokS : OkL w Z Sc := by have := (okL_append _ _).1 h.ok; exact this.1
  have hokx := ((okL_cut hx).1 hokS).2.1
  have hokr := ok_root hokx
  have hply : Pl y := Pl.get p _ _ _ l hg hp
  have hoky : Ok w Z y := ok_get p _ _ _ l hg hokr.1
  obtain ⟨k1, k2, k3, k4⟩ := cstrip_ok y hply hoky
  have hslot := cback_slot (p := p) (y := er y) (d := d) hx
  have hfS : fps (Sc ++ []) = fps Sc := by simp
  have hnodS : (fps Sc).Nodup := by have := h.nodup; rwa [hfS] at this
  have hltS : ∀ b ∈ fps Sc, b < w.heap.size := fun b hb => h.lt b (.inl (by rw [hfS]; exact hb))
  have hapS : ∀ b ∈ fps Sc, ¬ Z b := fun b hb => h.apart b (by rw [hfS]; exact hb)
  obtain ⟨L1, R1, hf1, hf2⟩ := fp_set p _ _ y l hg
  obtain ⟨pre, hfpR, hfp0, hbox⟩ : ∃ pre, (∀ z, fp (csetR x0 p z) = pre ++ (L1 ++ fp z ++ R1)) ∧ fp x0 = pre ++ (L1 ++ fp y ++ R1) ∧ ∀ b ty z, x0 = .box b ty z → pre = [b] := by
    rcases root_cases hp with ⟨b, ty, z, rfl, hz⟩ | ⟨hz, hrt, hcs⟩
    · simp only [rootC] at hf1 hf2
      exact ⟨[b], fun z' => by simp [csetR, fp, hf2], by simp [fp, hf1], fun _ _ _ e => by cases e; rfl⟩
    · rw [hrt] at hf1 hf2
      exact ⟨[], fun z' => by rw [hcs, hf2]; rfl, by rw [hf1]; rfl, fun b ty z e => by subst e; simp [Pl] at hz⟩
  have hold : fps Sc = (fps (Sc.take r) ++ pre ++ L1) ++ (fp y ++ (R1 ++ fps (Sc.drop (r + 1)))) := by
    rw [fps_cut hx, hfp0]; simp
  let cl := Sc.map fun x => if hin r p (er y) x then .undef (val x) else x
  have hcx : cl[r]? = some x0 := by simp [cl, hx, root_hin hp]
  have hlist : cback Sc r p (er y) x0 d = cl.set r (csetR x0 p d) := rfl
  have hsubl : ∀ xs : List CV, (fps (xs.map fun x => if hin r p (er y) x then .undef (val x) else x)).Sublist (fps xs) := by
    intro xs
    induction xs with
    | nil => simp [fps]
    | cons x xs ih =>
      simp only [List.map_cons, fps]
      refine List.Sublist.append ?_ ih
      split
      · simp [fp]
      · exact List.Sublist.refl _
  have hnew : fps (cback Sc r p (er y) x0 d) = (fps (cl.take r) ++ pre ++ L1) ++ (fp d ++ (R1 ++ fps (cl.drop (r + 1)))) := by
    rw [hlist, set_at _ hcx, fps_append]
    simp [fps, hfpR]
  have hs1 : (fps (cl.take r) ++ pre ++ L1).Sublist (fps (Sc.take r) ++ pre ++ L1) := by
    refine List.Sublist.append (List.Sublist.append ?_ (List.Sublist.refl _)) (List.Sublist.refl _)
    have := hsubl (Sc.take r); simpa [cl, List.map_take] using this
  have hs2 : (R1 ++ fps (cl.drop (r + 1))).Sublist (R1 ++ fps (Sc.drop (r + 1))) := by
    refine List.Sublist.append (List.Sublist.refl _) ?_
    have := hsubl (Sc.drop (r + 1)); simpa [cl, List.map_drop] using this
  obtain ⟨A, hA⟩ : ∃ A, A = fps (cl.take r) ++ pre ++ L1 := ⟨_, rfl⟩
  obtain ⟨B, hB⟩ : ∃ B, B = R1 ++ fps (cl.drop (r + 1)) := ⟨_, rfl⟩
  rw [← hA, ← hB] at hnew
  rw [← hA] at hs1
  rw [← hB] at hs2
  -- what is old and not lent
  have hndo := hnodS
  rw [hold] at hndo
  have hAB : ∀ b, (b ∈ A ∨ b ∈ B) → b ∈ fps Sc ∧ b ∉ fp y := fun b hb => by
    rw [List.nodup_append, List.nodup_append (l₁ := fp y)] at hndo
    obtain ⟨n1, ⟨n2, n3, n4⟩, n5⟩ := hndo
    rcases hb with hb | hb
    · refine ⟨by rw [hold]; exact List.mem_append.2 (.inl (hs1.subset hb)), fun hy => n5 b (hs1.subset hb) b (List.mem_append.2 (.inl hy)) rfl⟩
    · refine ⟨by rw [hold]; exact List.mem_append.2 (.inr (List.mem_append.2 (.inr (hs2.subset hb)))), fun hy => n4 b hy b (hs2.subset hb) rfl⟩
  have hABn : (A ++ B).Nodup := by
    rw [List.nodup_append, List.nodup_append (l₁ := fp y)] at hndo
    obtain ⟨n1, ⟨n2, n3, n4⟩, n5⟩ := hndo
    rw [List.nodup_append]
    exact ⟨hs1.nodup n1, hs2.nodup n3, fun u hu v hv => n5 u (hs1.subset hu) v (List.mem_append.2 (.inr (hs2.subset hv)))⟩
  have hsameAB : ∀ b, (b ∈ A ∨ b ∈ B) → w'.heap[b]? = w.heap[b]? := fun b hb => hsame b (hltS b (hAB b hb).1) (hAB b hb).2
  have hyS : ∀ b ∈ fp y, b ∈ fps Sc := fun b hb => by rw [hold]; exact List.mem_append.2 (.inr (List.mem_append.2 (.inl hb)))
  have hsameZ : ∀ b, Z b → w'.heap[b]? = w.heap[b]? := fun b hb => hsame b (h.lt b (.inr hb)) (fun hy => hapS b (hyS b hy) hb)
  have hmemn : ∀ b, b ∈ fps (cback Sc r p (er y) x0 d ++ [c]) → (b ∈ A ∨ b ∈ B) ∨ b ∈ fps [c, d] := fun b hb => by
    rw [fps_append, hnew] at hb
    simp only [fps, List.append_nil, List.mem_append] at hb ⊢
    rcases hb with (hb | hb | hb) | hb
    · exact .inl (.inl hb)
    · exact .inr (.inr hb)
    · exact .inl (.inr hb)
    · exact .inr (.inl hb)
  have hd' : Ok w' Z' d ∧ Ok w' Z' c := by simp only [OkL] at hok; exact ⟨hok.2.1, hok.1⟩
  have hsame1 := ok_same (w := w) (Z := Z) p _ _ y l (cstrip y) hg (cstrip_flat y) k1
  -- the root
  have hcongr : ∀ x : CV, (∀ b ∈ fp x, b ∈ A ∨ b ∈ B) → Ok w Z x → Ok w' Z' x := fun x hb hk => Ok.congr hz1 hsameZ x (fun b hb' => hsameAB b (hb b hb')) hk
  have hg2 : cgetN (csetN (rootC x0).1 p (cstrip y)) (rootC x0).2 p = some (cstrip y, l) := by
    have := get_set_in p [] _ _ y l (cstrip y) hg
    simpa [cgetN] using this
  have hinner : Ok w' Z' (csetN (rootC x0).1 p d) ∧ flat (csetN (rootC x0).1 p d) = flat (rootC x0).1 := by
    have h1 : Ok w Z (csetN (rootC x0).1 p (cstrip y)) := hsame1.2 hokr.1
    have h2 : Ok w' Z' (csetN (rootC x0).1 p (cstrip y)) := hcongr _ (fun b hb => by
      rw [hf2, k2] at hb
      simp only [List.append_nil, List.mem_append] at hb
      rw [hA, hB]
      rcases hb with hb | hb
      · exact .inl (List.mem_append.2 (.inr hb))
      · exact .inr (List.mem_append.2 (.inl hb))) h1
    have h3 := ok_same (w := w') (Z := Z') p _ _ (cstrip y) l d hg2 (by rw [hfl, cstrip_flat]) hd'.1
    rw [set_set p _ _ y l (cstrip y) d hg] at h3
    exact ⟨h3.2 h2, by rw [h3.1, hsame1.1]⟩
  have hokR : Ok w' Z' (csetR x0 p d) := by
    rcases root_cases hp with ⟨b, ty, z, rfl, hz⟩ | ⟨hz, hrt, hcs⟩
    · simp only [rootC] at hinner
      simp only [csetR, Ok] at hokx ⊢
      refine ⟨?_, hinner.1⟩
      rw [hinner.2, hsameAB b (by rw [hA]; exact .inl (by simp [hbox b ty z rfl]))]
      exact hokx.1
    · rw [hrt] at hinner; rw [hcs]; exact hinner.1
  have hvalR : val (csetR x0 p d) = val x0 := by
    rcases root_cases hp with ⟨b, ty, z, rfl, hz⟩ | ⟨hz, hrt, hcs⟩
    · simp [csetR, val, val1, flat]
    · rw [hrt] at hinner hg; rw [hcs]
      exact val_of_flat (Pl.set p _ d hz hd).not_tup hz.not_tup (agg_set p hg hagg) hinner.2
  have hget : ∀ z ∈ cback Sc r p (er y) x0 d, z = csetR x0 p d ∨ ∃ t u, t ≠ r ∧ Sc[t]? = some u ∧ z = if hin r p (er y) u then .undef (val u) else u := by
    intro z hz
    obtain ⟨t, ht', rfl⟩ := List.getElem_of_mem hz
    have ht2 : (cback Sc r p (er y) x0 d)[t]? = some (cback Sc r p (er y) x0 d)[t] := List.getElem?_eq_getElem ht'
    rw [hslot] at ht2
    split at ht2
    · simp only [Option.some.injEq] at ht2; exact .inl ht2.symm
    · rename_i hne
      cases hu' : Sc[t]? with
      | none => simp [hu'] at ht2
      | some u => simp only [hu', Option.map_some, Option.some.injEq] at ht2; exact .inr ⟨t, u, hne, hu', ht2.symm⟩
  refine { defers := h.defers, size := by rw [hlist]; simpa [cl] using h.size, tmps := fun t ht' => ?_, ok := ?_, nodup := ?_, apart := fun b hb => ?_, lt := fun b hb => ?_, refs := fun z hzq => ?_, wf := fun z hzq => ?_, sorted := fun z hzq => ?_,
           nr := fun z hz => ?_, kept := fun b hk => ?_, os := ho.trans h.os, tape := ht.trans h.tape, output := hu.trans h.output, grew := Nat.le_trans h.grew hgr }
  · rw [h.tmps t ht', hslot]
    split
    · rename_i e; subst e; rw [hx]; simp [hvalR]
    · cases Sc[t]? with
      | none => rfl
      | some u => simp only [Option.map_some]; split <;> simp [val_undef]
  · rw [okL_append]
    refine ⟨?_, by simpa [OkL] using hd'.2⟩
    rw [hlist, okL_set hcx]
    have hcl : OkL w Z cl := by
      rw [okL_iff] at hokS ⊢
      intro z hz
      simp only [cl, List.mem_map] at hz
      obtain ⟨u, hu', rfl⟩ := hz
      split
      · simp [Ok]
      · exact hokS u hu'
    have hc3 := (okL_cut hcx).1 hcl
    refine ⟨OkL.congr hz1 hsameZ _ (fun b hb => hsameAB b (by rw [hA]; exact .inl (by simp [hb]))) hc3.1, hokR, OkL.congr hz1 hsameZ _ (fun b hb => hsameAB b (by rw [hB]; exact .inr (by simp [hb]))) hc3.2.2⟩
  · rw [fps_append, hnew]
    have hpm : (A ++ (fp d ++ B) ++ fps [c]).Perm ((A ++ B) ++ fps [c, d]) := by
      simp only [fps, List.append_nil]
      rw [List.append_assoc, List.append_assoc, List.append_assoc]
      refine List.Perm.append_left _ ?_
      rw [← List.append_assoc B (fp c) (fp d)]
      exact List.perm_append_comm
    rw [hpm.nodup_iff, List.nodup_append]
    refine ⟨hABn, hnd, fun u hu' v hv e => ?_⟩
    subst e
    have h1 := hAB u (List.mem_append.1 hu')
    rcases (hown u hv).1 with h2 | h2
    · exact h1.2 h2
    · have := hltS u h1.1; omega
  · rcases hmemn b hb with hb | hb
    · intro hz
      have h1 := hAB b hb
      rcases (hz2 b hz).1 with h2 | h2
      · exact hapS b h1.1 h2
      · have := hltS b h1.1; omega
    · exact hap b hb
  · rcases hb with hb | hb
    · rcases hmemn b hb with hb | hb
      · exact Nat.lt_of_lt_of_le (hltS b (hAB b hb).1) hgr
      · exact (hown b hb).2
    · exact (hz2 b hb).2
  · rcases hget z hzq with rfl | ⟨t, u, _, hu', rfl⟩
    · rcases root_cases hp with ⟨b, ty, z, rfl, hz⟩ | ⟨hz, hrt, hcs⟩
      · simp [csetR, RefOk]
      · rw [hcs]; exact (Pl.set p _ d hz hd).refOk
    · split
      · simp [RefOk]
      · rename_i hh; exact RefOk.back hx hp hd hg hs u (by simpa using hh) (h.refs u (List.mem_of_getElem? hu'))
  · rcases hget z hzq with rfl | ⟨t, u, _, hu', rfl⟩
    · rcases root_cases hp with ⟨b, ty, z, rfl, hz⟩ | ⟨hz, hrt, hcs⟩
      · simp only [csetR, Wf]; exact Pl.set p _ d hz hd
      · rw [hcs]; exact (Pl.set p _ d hz hd).wf
    · split
      · simp [Wf]
      · exact h.wf u (List.mem_of_getElem? hu')
  · rcases hget z hzq with rfl | ⟨t, u, _, hu', rfl⟩
    · rcases root_cases hp with ⟨b, ty, z, rfl, hz⟩ | ⟨hz, hrt, hcs⟩
      · exact .inl (by simp only [csetR, NR]; exact Pl.set p _ d hz hd)
      · rw [hcs]; exact .inl (Pl.set p _ d hz hd).nr
    · split
      · exact .inr (by simp [NoOwn])
      · exact h.sorted u (List.mem_of_getElem? hu')
  · simp only [List.mem_singleton] at hz; subst hz; exact hnc
  · have hk3 := h.kept b hk
    have hnS : b ∉ fps Sc := by have := hk3.2.1; rwa [hfS] at this
    refine ⟨hk3.1, fun hm => ?_, ?_⟩
    · rcases hmemn b hm with hb | hb
      · exact hnS (hAB b hb).1
      · rcases (hown b hb).1 with h2 | h2
        · exact hnS (hyS b h2)
        · have := hk3.1; have := h.grew; omega
    · rw [hsame b (Nat.lt_of_lt_of_le hk3.1 h.grew) (fun hy => hnS (hyS b hy))]
      exact hk3.2.2
end
end Go.Bv

/-! Contracts of functions that turn what they are lent; their calls. -/
namespace Go.Bv
open Go Go.RowKit
set_option linter.unusedSimpArgs false
set_option linter.unusedVariables false

mutual
/-- May be lent: numbers, flags, texts, own lists, structs of these. -/
def lendA : AV → Bool
  | .bool _ | .int _ _ | .str _ => true
  | .lst o _ _ => o
  | .agg xs => lendAs xs
  | _ => false
def lendAs : List AV → Bool
  | [] => true
  | x :: xs => lendA x && lendAs xs
end
/-- No operation writes slot t. -/
def noDst (t : Nat) : Code → Bool
  | .region _ ops _ => ops.toList.all fun o => o.dst != some t
  | .seq x y => noDst t x && noDst t y
  | .cond _ x y => noDst t x && noDst t y
  | .block _ c => noDst t c
  | .loop c => noDst t c
  | _ => true
theorem frees_of {P : Program} {b : Nat → Prop} {t : Nat} {u : Value} {c : Code} : noDst t c = true → (Kp.mk (P := P) b fun s => if s = t then some u else none).frees c := by
  induction c with
  | region id ops draw =>
    intro h
    simp only [noDst, List.all_eq_true, bne_iff_ne, ne_eq] at h
    intro o ho
    have := h o ho
    cases hd : o.dst with
    | none => trivial
    | some d => simp only [Kp.free]; rw [hd] at this; rw [if_neg (fun e => this (by rw [e]))]
  | seq x y ih1 ih2 => intro h; simp only [noDst, Bool.and_eq_true] at h; exact ⟨ih1 h.1, ih2 h.2⟩
  | cond v x y ih1 ih2 => intro h; simp only [noDst, Bool.and_eq_true] at h; exact ⟨ih1 h.1, ih2 h.2⟩
  | block id c ih => intro h; simp only [noDst] at h; exact ih h
  | loop c ih => intro h; simp only [noDst] at h; exact ih h
  | _ => intro _; trivial

/-- Function f, of these arguments by value, of which it is lent the t-th, returns r and gives v back. -/
def SoundM (P : Program) (f : Nat) (args : List AV) (t : Nat) (r v : AV) : Prop :=
  ∀ (w : World) (Z0 : Nat → Prop) (cs : List CV), ers cs = args → OkL w Z0 cs → (fps cs).Nodup → (∀ b ∈ fps cs, ¬ Z0 b) → (∀ b, (b ∈ fps cs ∨ Z0 b) → b < w.heap.size) → PlL cs → GW P w (fps cs) →
    Calls P f (cs.map val).toArray w (fun e w' => ∃ c d x, e = .returned (val c) ∧ er c = r ∧ er d = v ∧ cs[t]? = some x ∧ val d = val x ∧ NR c ∧ Pl d ∧
      (∃ Z', (∀ b, Z0 b → Z' b) ∧ (∀ b, Z' b → (Z0 b ∨ w.heap.size ≤ b) ∧ b < w'.heap.size) ∧ OkL w' Z' [c, d] ∧ ∀ b ∈ fps [c, d], ¬ Z' b) ∧
      (fps [c, d]).Nodup ∧ (∀ b ∈ fps [c, d], (b ∈ fps cs ∨ w.heap.size ≤ b) ∧ b < w'.heap.size) ∧ (∀ b, b < w.heap.size → b ∉ fps cs → w'.heap[b]? = w.heap[b]?) ∧
      w.heap.size ≤ w'.heap.size ∧ w'.os = w.os ∧ w'.tape = w.tape ∧ w'.output = w.output)

/-- One result, or several. -/
def resV : List AV → AV
  | [x] => x
  | vs => .tup vs
def aresM (Γ : Tab) (rs : List ResultVar) (S : List AV) (t : Nat) : Option (AV × AV) :=
  match aresL Γ rs S with
  | some (vs, S2) => (match S2[t]? with
    | some v => some (resV vs, v)
    | none => none)
  | none => none
def endsM (Γ : Tab) (rs : List ResultVar) (t : Nat) (r v : AV) : Exit → List AV → Prop
  | .ret, S | .normal, S => aresM Γ rs S t = some (r, v)
  | _, _ => False
theorem ends_rM {Γ : Tab} {rs : List ResultVar} {t : Nat} {r v : AV} {S : List AV} (h : aresM Γ rs S t = some (r, v)) : endsM Γ rs t r v .ret S := h
theorem ends_nM {Γ : Tab} {rs : List ResultVar} {t : Nat} {r v : AV} {S : List AV} (h : aresM Γ rs S t = some (r, v)) : endsM Γ rs t r v .normal S := h

section
variable {K : Nat → Prop} {w0 : World} {Z : Nat → Prop} {Sc L : List CV} {a : Act} {w : World} {P : Program} {Γ : Tab}

theorem sound_bodyM (hT : TabOk P Γ) {f : Nat} {fn : Func} {c : Code} (hf : P.funcs[f]? = some fn) (hb : fn.body = some c) {args : List AV} {t : Nat} {r v : AV} (hno : noDst t c = true) (htl : t < args.length) (hpv : plA v = true)
    (hw : AW P c (frame args fn.ntmps) (endsM Γ fn.results.toList t r v)) : SoundM P f args t r v := by
  intro w Z0 cs hcs hok hnd hap hlt hpl hgw
  subst hcs
  have hl : (ers cs).length = cs.length := by simp [ers_eq]
  rw [hl] at htl
  have hx : cs[t]? = some cs[t] := List.getElem?_eq_getElem htl
  refine calls_of_wp hf hb ?_
  have hA : At (P := P) ⟨fun b => b < w.heap.size ∧ b ∉ fps cs, fun s => if s = t then some (val cs[t]) else none⟩ w Z0 (frame (ers cs) fn.ntmps) { tmps := (cs.map val).toArray ++ Array.replicate (fn.ntmps - (cs.map val).toArray.size) undef, defers := [] } w := by
    refine ⟨⟨Z0, cs ++ List.replicate (fn.ntmps - cs.length) (.undef undef), fun b h => h, fun b h => .inl h, by rw [ers_append, ers_undef, frame, hl], ?_⟩, fun s u hs => ?_, hgw⟩
    · have ef : fps ((cs ++ List.replicate (fn.ntmps - cs.length) (.undef undef)) ++ []) = fps cs := by simp [fps_append, fps_undef]
      refine { defers := rfl, size := by simp, tmps := fun t ht => ?_, ok := ?_, nodup := by rw [ef]; exact hnd, apart := by rw [ef]; exact hap, lt := fun b hb' => ?_, refs := fun x hx => ?_, wf := fun x hx => ?_, sorted := fun x hx => ?_, nr := by simp,
               kept := fun b hk => ⟨hk.1, by rw [ef]; exact hk.2, rfl⟩, os := rfl, tape := rfl, output := rfl, grew := Nat.le_refl _ }
      · simp only [Array.getElem?_append, List.size_toArray, List.length_map, List.getElem?_append]
        split
        · simp
        · rename_i hge
          have ht' : t < cs.length + (fn.ntmps - cs.length) := by simpa using ht
          simp only [List.getElem?_replicate, Array.getElem?_replicate]
          have : t - cs.length < fn.ntmps - cs.length := by omega
          simp [this, val, val1, flat]
      · rw [List.append_nil, okL_append]
        refine ⟨hok, (okL_iff _).2 fun x hx => ?_⟩
        rw [List.eq_of_mem_replicate hx]; simp [Ok]
      · rw [ef] at hb'; exact hlt b hb'
      · rcases List.mem_append.1 hx with hx | hx
        · exact Pl.refOk _ ((plL_iff _).1 hpl x hx)
        · rw [List.eq_of_mem_replicate hx]; simp [RefOk]
      · rcases List.mem_append.1 hx with hx | hx
        · exact Pl.wf _ ((plL_iff _).1 hpl x hx)
        · rw [List.eq_of_mem_replicate hx]; simp [Wf]
      · rcases List.mem_append.1 hx with hx | hx
        · exact .inl ((plL_iff _).1 hpl x hx).nr
        · rw [List.eq_of_mem_replicate hx]; exact .inr (by simp [NoOwn])
    · simp only at hs
      split at hs
      · rename_i e
        subst e
        simp only [Option.some.injEq] at hs
        rw [Array.getElem?_append_left (by simpa using htl)]
        simp [htl, hs]
      · cases hs
  have hfin : ∀ S' a' w', At (P := P) ⟨fun b => b < w.heap.size ∧ b ∉ fps cs, fun s => if s = t then some (val cs[t]) else none⟩ w Z0 S' a' w' → aresM Γ fn.results.toList S' t = some (r, v) →
      a'.defers = [] ∧ ∃ u, (results fn a'.tmps).run P w' = .ok u w' ∧ ∃ c d x, Ending.returned u = .returned (val c) ∧ er c = r ∧ er d = v ∧ cs[t]? = some x ∧ val d = val x ∧ NR c ∧ Pl d ∧
      (∃ Z', (∀ b, Z0 b → Z' b) ∧ (∀ b, Z' b → (Z0 b ∨ w.heap.size ≤ b) ∧ b < w'.heap.size) ∧ OkL w' Z' [c, d] ∧ ∀ b ∈ fps [c, d], ¬ Z' b) ∧
      (fps [c, d]).Nodup ∧ (∀ b ∈ fps [c, d], (b ∈ fps cs ∨ w.heap.size ≤ b) ∧ b < w'.heap.size) ∧ (∀ b, b < w.heap.size → b ∉ fps cs → w'.heap[b]? = w.heap[b]?) ∧
      w.heap.size ≤ w'.heap.size ∧ w'.os = w.os ∧ w'.tape = w.tape ∧ w'.output = w.output := by
    intro S' a' w' hA' hr
    obtain ⟨⟨Z, Sc, z1, z2, rfl, hG⟩, hfx⟩ := hA'
    refine ⟨hG.defers, ?_⟩
    have hfx' : a'.tmps[t]? = some (val cs[t]) := hfx.1 t _ (by simp)
    unfold aresM at hr
    cases hL : aresL Γ fn.results.toList (ers Sc) with
    | none => simp [hL] at hr
    | some q =>
      obtain ⟨vs, S2⟩ := q
      obtain ⟨ys, Sc', e1, e2, hG2, hpl2, hrun⟩ := aresL_good hT _ hG hL
      have hrr := run_results hrun
      rw [hL] at hr
      simp only at hr
      cases hS2 : S2[t]? with
      | none => simp [hS2] at hr
      | some v' =>
      simp only [hS2, Option.some.injEq, Prod.mk.injEq] at hr
      obtain ⟨hr, rfl⟩ := hr
      obtain ⟨d, hd, hdv⟩ : ∃ d, Sc'[t]? = some d ∧ er d = v' := by
        rw [← e2, ers_eq, List.getElem?_map] at hS2
        cases hq : Sc'[t]? with
        | none => simp [hq] at hS2
        | some d => simp only [hq, Option.map_some, Option.some.injEq] at hS2; exact ⟨d, rfl, hS2⟩
      have hpd : Pl d := pl_er d (by rw [hdv]; exact hpv)
      have hvd : val d = val cs[t] := by
        have hlt' : t < a'.tmps.size := (Array.getElem?_eq_some_iff.1 hfx').1
        have := hG2.tmps t hlt'
        rw [hfx', hd] at this
        simpa using this.symm
      have hmd : ∀ b ∈ fp d, b ∈ fps Sc' := fun b hb => mem_fps.2 ⟨d, List.mem_of_getElem? hd, hb⟩
      have hndd : (fp d).Nodup := by
        have := hG2.nodup
        rw [fps_append, fps_cut hd] at this
        exact (List.nodup_append.1 (List.nodup_append.1 (List.nodup_append.1 this).1).2.1).1
      have hdok : Ok w' Z d := ((okL_cut hd).1 ((okL_append _ _).1 hG2.ok).1).2.1
      have hokL : OkL w' Z ys := ((okL_append _ _).1 ((okL_append _ _).1 hG2.ok).2).1
      have key : ∀ c : CV, er c = resV vs → resVal (ys.map val1) = val c → NR c → fp c = fps ys → Ok w' Z c →
          ∃ u, (results fn a'.tmps).run P w' = .ok u w' ∧ ∃ c d x, Ending.returned u = .returned (val c) ∧ er c = r ∧ er d = v' ∧ cs[t]? = some x ∧ val d = val x ∧ NR c ∧ Pl d ∧
      (∃ Z', (∀ b, Z0 b → Z' b) ∧ (∀ b, Z' b → (Z0 b ∨ w.heap.size ≤ b) ∧ b < w'.heap.size) ∧ OkL w' Z' [c, d] ∧ ∀ b ∈ fps [c, d], ¬ Z' b) ∧
      (fps [c, d]).Nodup ∧ (∀ b ∈ fps [c, d], (b ∈ fps cs ∨ w.heap.size ≤ b) ∧ b < w'.heap.size) ∧ (∀ b, b < w.heap.size → b ∉ fps cs → w'.heap[b]? = w.heap[b]?) ∧
      w.heap.size ≤ w'.heap.size ∧ w'.os = w.os ∧ w'.tape = w.tape ∧ w'.output = w.output := by
        intro c hc hv hn hfc hkc
        have hall : ∀ b ∈ fps [c, d], b ∈ fps (Sc' ++ (ys ++ [])) := fun b hb => by
          simp only [fps, List.append_nil, List.mem_append, fps_append] at hb ⊢
          rcases hb with hb | hb
          · exact .inr (by rw [hfc] at hb; exact hb)
          · exact .inl (hmd b hb)
        refine ⟨_, hrr, c, d, cs[t], by rw [hv], by rw [hc, hr], hdv, hx, hvd, hn, hpd, ⟨Z, z1, fun b hb => ⟨z2 b hb, hG2.lt b (.inr hb)⟩, ?_, fun b hb => hG2.apart b (hall b hb)⟩, ?_, fun b hb => ⟨?_, hG2.lt b (.inl (hall b hb))⟩,
          fun b h1 h2 => (hG2.kept b ⟨h1, h2⟩).2.2, hG2.grew, hG2.os, hG2.tape, hG2.output⟩
        · simp only [OkL]; exact ⟨hkc, hdok, trivial⟩
        · simp only [fps, List.append_nil, hfc]
          have := hG2.nodup
          rw [List.append_nil, fps_append] at this
          have h2 := List.nodup_append.1 this
          rw [List.nodup_append]
          exact ⟨h2.2.1, hndd, fun u hu v hv e => h2.2.2 v (hmd v hv) u hu e.symm⟩
        · by_cases hk : b < w.heap.size
          · by_cases hm : b ∈ fps cs
            · exact .inl hm
            · exact absurd (hall b hb) (hG2.kept b ⟨hk, hm⟩).2.1
          · exact .inr (by omega)
      by_cases h1 : ∃ y, ys = [y]
      · obtain ⟨y, rfl⟩ := h1
        have hply : Pl y := by simpa [PlL] using hpl2
        refine key y ?_ ?_ hply.nr (by simp [fps]) (by simpa [OkL] using hokL)
        · rw [← e1]; simp [ers, resV]
        · simp [resVal, val_of_val1 hply.not_tup]
      · refine key (.tup ys) ?_ ?_ ?_ (by simp [fp]) (by simpa [Ok] using hokL)
        · match vs, ys, e1, h1 with
          | [], [], _, _ => simp [er, ers, resV]
          | [_], [y], _, h1 => exact absurd ⟨y, rfl⟩ h1
          | u1 :: u2 :: us, y1 :: y2 :: zs, e1, _ => simp only [er, resV]; rw [e1]
        · have : resVal (ys.map val1) = Value.tuple (ys.map val1).toArray := by
            match ys, h1 with
            | [], _ => rfl
            | [y], h1 => exact absurd ⟨y, rfl⟩ h1
            | _ :: _ :: _, _ => rfl
          rw [this]; simp [val]
        · simp only [NR]
          intro u hu
          exact .inr ((plL_iff _).1 hpl2 u hu)
  refine wp_mono (hw _ _ _ _ _ (frees_of hno) hA) fun e a' w' ⟨S', q, hS'⟩ => ?_
  cases e with
  | normal => exact hfin S' a' w' hS' q
  | ret => exact hfin S' a' w' hS' q
  | _ => exact q.elim

mutual
theorem flat_lent {r : Nat} {x0 : CV} (hx : Sc[r]? = some x0) : ∀ (y u : CV) (p : List Nat) (l : Option Addr), lendA (er y) = true → er u = aview r p (er y) → RefOk Sc u → cgetN (rootC x0).1 (rootC x0).2 p = some (y, l) → flat u = flat y
  | .lst o s A c xs, u, p, l, hl, he, hr, hg => by
    simp only [er, lendA] at hl
    subst hl
    simp only [er, aview] at he
    obtain ⟨v, rfl⟩ := er_ref he
    simp only [RefOk] at hr
    obtain ⟨x1, s1, A1, c1, xs1, l1, h1, _, h3, h4, A', c', rfl, _, rfl, _, h5, _⟩ := hr
    rw [hx] at h1; cases h1
    rw [hg] at h3
    simp only [Option.some.injEq, Prod.mk.injEq, CV.lst.injEq, true_and] at h3
    obtain ⟨⟨rfl, rfl, rfl, rfl⟩, _⟩ := h3
    simp [flat, h5 rfl, ers_eq]
  | .agg xs, u, p, l, hl, he, hr, hg => by
    simp only [er, lendA] at hl
    simp only [er, aview] at he
    obtain ⟨us, rfl, hus⟩ := er_agg he
    simp only [RefOk] at hr
    simp only [flat]
    exact flats_lent hx xs us p 0 hl hus hr (fun j y hj => by rw [get_in p _ _ _ _ l hg]; exact ⟨_, by simp [cgetN, hj]; rfl⟩)
  | .bool _, u, p, l, hl, he, _, _ | .int _ _, u, p, l, hl, he, _, _ | .str _, u, p, l, hl, he, _, _ => by
    cases u <;> simp_all [er, aview, flat]
  | .undef _, u, p, l, hl, he, _, _ | .tup _, u, p, l, hl, he, _, _ | .fn _ _, u, p, l, hl, he, _, _ | .ip _ _, u, p, l, hl, he, _, _ | .at _ _ _, u, p, l, hl, he, _, _ | .ref _ _ _ _ _, u, p, l, hl, he, _, _ | .box _ _ _, u, p, l, hl, he, _, _ => by
    simp [er, lendA] at hl
theorem flats_lent {r : Nat} {x0 : CV} (hx : Sc[r]? = some x0) : ∀ (ys us : List CV) (p : List Nat) (i : Nat), lendAs (ers ys) = true → ers us = aviews r p i (ers ys) → RefOkL Sc us →
    (∀ (j : Nat) y, ys[j]? = some y → ∃ l, cgetN (rootC x0).1 (rootC x0).2 (p ++ [i + j]) = some (y, l)) → flats us = flats ys
  | [], us, p, i, _, he, _, _ => by
    cases us <;> simp [ers, aviews] at he ⊢
  | y :: ys, us, p, i, hl, he, hr, hg => by
    cases us with
    | nil => simp [ers, aviews] at he
    | cons u us =>
      simp only [ers, lendAs, Bool.and_eq_true] at hl
      simp only [ers, aviews, List.cons.injEq] at he
      simp only [RefOkL] at hr
      obtain ⟨l, hl0⟩ := hg 0 y rfl
      simp only [flats]
      rw [flat_lent hx y u (p ++ [i]) l hl.1 he.1 hr.1 (by simpa using hl0), flats_lent hx ys us p (i + 1) hl.2 he.2 hr.2 (fun j z hj => by
        obtain ⟨l, hl⟩ := hg (j + 1) z (by simpa using hj)
        exact ⟨l, by rw [show i + 1 + j = i + (j + 1) by omega]; exact hl⟩)]
end
theorem flat_of_val {x y : CV} (hx : Pl x) (hy : Pl y) (ha : (∃ xs, x = .agg xs) ↔ (∃ ys, y = .agg ys)) (h : val x = val y) : flat x = flat y := by
  by_cases hag : ∃ xs, x = .agg xs
  · obtain ⟨xs, rfl⟩ := hag
    obtain ⟨ys, rfl⟩ := ha.1 ⟨xs, rfl⟩
    simp only [val, val1, Value.agg.injEq] at h
    simp only [flat]
    have := congrArg Array.toList h
    simpa using this
  · have hb : ¬ ∃ ys, y = .agg ys := fun h => hag (ha.2 h)
    rw [flat_one (fun xs e => hag ⟨xs, e⟩), flat_one (fun ys e => hb ⟨ys, e⟩)]
    rw [val_of_val1 hx.not_tup, val_of_val1 hy.not_tup] at h
    rw [h]
theorem sk_agg {x y : CV} (h : skA (er x) (er y) = true) : (∃ xs, x = .agg xs) ↔ (∃ ys, y = .agg ys) := by
  cases x <;> cases y <;> simp_all [er, skA]

theorem view_aggIff {r : Nat} {p : List Nat} {u y : CV} (hl : lendA (er y) = true) (h : er u = aview r p (er y)) : (∃ xs, y = .agg xs) ↔ (∃ us, u = .agg us) := by
  cases y with
  | lst o s A c xs =>
    cases o
    · simp [er, lendA] at hl
    · simp only [er, aview] at h
      obtain ⟨v, rfl⟩ := er_ref h
      simp
  | agg xs =>
    simp only [er, aview] at h
    obtain ⟨us, rfl, _⟩ := er_agg h
    simp
  | bool b => cases u <;> simp_all [er, aview]
  | int k n => cases u <;> simp_all [er, aview]
  | str s => cases u <;> simp_all [er, aview]
  | _ => simp [er, lendA] at hl
/-- A call that is lent a place. -/
theorem call_lend {o : Oper} {f : Nat} {args : Array Operand} {ats : Array TypeId} (ho : o.op = .call { callee := .value (.func f), args, argTypes := ats }) (hf : ∀ vs w, (callFunc f vs).run P w = .ok (.enter f vs) w)
    {S vs : List AV} (hvs : ards S args.toList = some vs) {t r : Nat} {p : List Nat} {x0 y v rv : AV} (ht : vs[t]? = some (aview r p y)) (hx : S[r]? = some x0) (hp : plA (rootA x0) = true) (hy : aget S r p = some y) (hly : lendA y = true)
    (hpl : plAs (vs.set t y) = true) (hS : SoundM P f (vs.set t y) t rv v) (hsk : skA y v = true) : AO P o S (aput o.dst rv (aback S r p y v)) := ao_of fun K w0 Z0 a w hGK ⟨Z, Sc, z1, z2, hSc, hG⟩ Q => by
  subst hSc
  obtain ⟨cs, rfl, h2, h3⟩ := ards_sound hG _ _ hvs
  have hfp : fps cs = [] := by
    clear hvs ht hpl hS h2
    induction cs with
    | nil => rfl
    | cons c cs ih => simp [fps, (h3 c (by simp)).1.fp, ih (fun c hc => h3 c (by simp [hc]))]
  obtain ⟨x0c, hxc, rfl⟩ : ∃ x0c, Sc[r]? = some x0c ∧ er x0c = x0 := by
    rw [ers_eq, List.getElem?_map] at hx
    cases hq : Sc[r]? with
    | none => simp [hq] at hx
    | some q => simp only [hq, Option.map_some, Option.some.injEq] at hx; exact ⟨q, rfl, hx⟩
  have hproot : Pl (rootC x0c).1 := pl_er _ (by rw [er_root]; exact hp)
  obtain ⟨yc, l, hg, rfl⟩ : ∃ yc l, cgetN (rootC x0c).1 (rootC x0c).2 p = some (yc, l) ∧ er yc = y := by
    unfold aget at hy
    rw [hx] at hy
    simp only at hy
    rw [← er_root] at hy
    exact er_get' p _ _ _ hy
  obtain ⟨u, hu, hue⟩ : ∃ u, cs[t]? = some u ∧ er u = aview r p (er yc) := by
    rw [ers_eq, List.getElem?_map] at ht
    cases hq : cs[t]? with
    | none => simp [hq] at ht
    | some q => simp only [hq, Option.map_some, Option.some.injEq] at ht; exact ⟨q, rfl, ht⟩
  have hum := List.mem_of_getElem? hu
  have hflu := flat_lent hxc yc u p l hly hue (h3 u hum).1.refOk hg
  have hply : Pl yc := Pl.get p _ _ _ l hg hproot
  have hokx := ((okL_cut hxc).1 ((okL_append _ _).1 hG.ok).1).2.1
  have hoky : Ok w Z yc := ok_get p _ _ _ l hg (ok_root hokx).1
  have hnu : ∀ xs, u ≠ .tup xs := (h3 u hum).2
  have hvu : val yc = val u := by
    exact val_of_flat hply.not_tup hnu (view_aggIff hly hue) hflu.symm
  -- the arguments, the lent one by its own value
  have hcs' : (cs.set t yc).map val = args.toList.map a.eval := by
    rw [List.map_set, hvu, ← h2]
    apply List.ext_getElem?
    intro j
    rw [List.getElem?_set]
    split
    · rename_i e; subst e
      rw [List.length_map]
      split
      · simp [hu]
      · rename_i hn; rw [List.getElem?_eq_none (by simpa using hn)] ; 
    · rfl
  have htl : t < cs.length := (List.getElem?_eq_some_iff.1 hu).1
  have hfp' : ∀ b, b ∈ fps (cs.set t yc) → b ∈ fp yc := fun b hb => by
    have := (fps_set cs t yc).sub b hb
    simpa [hfp] using this
  have hfpn : (fps (cs.set t yc)).Nodup := by
    refine (fps_set cs t yc).nodup ?_
    rw [hfp, List.append_nil]
    have hn := hG.nodup
    obtain ⟨L1, R1, hf1, _⟩ := fp_set p _ _ yc l hg
    have hn2 : (fp x0c).Nodup := by
      rw [List.append_nil, fps_cut hxc] at hn
      exact (List.nodup_append.1 (List.nodup_append.1 hn).2.1).1
    have hn3 : (fp (rootC x0c).1).Nodup := by
      cases x0c <;> simp_all [rootC, fp]
    rw [hf1] at hn3
    exact (List.nodup_append.1 (List.nodup_append.1 hn3).1).2.1
  have hyS : ∀ b ∈ fp yc, b ∈ fps (Sc ++ []) := fun b hb => by
    rw [List.append_nil]
    refine mem_fps.2 ⟨x0c, List.mem_of_getElem? hxc, ?_⟩
    obtain ⟨L1, R1, hf1, _⟩ := fp_set p _ _ yc l hg
    have : b ∈ fp (rootC x0c).1 := by rw [hf1]; simp [hb]
    cases x0c <;> simp_all [rootC, fp]
  have hokcs : OkL w Z (cs.set t yc) := by
    rw [okL_set hu]
    have := (okL_cut hu).1 ((okL_iff _).2 fun c hc => (h3 c hc).1.ok)
    exact ⟨this.1, hoky, this.2.2⟩
  have herr : ers (cs.set t yc) = (ers cs).set t (er yc) := ers_set _ _ _
  unfold Oper.wp
  rw [run_call ho hf]
  simp only [Oper.upon]
  have hcall := hS w Z (cs.set t yc) herr hokcs hfpn (fun b hb => hG.apart b (hyS b (hfp' b hb))) (fun b hb => hG.lt b (hb.imp (fun hb => hyS b (hfp' b hb)) id)) (plL_er _ (by rw [herr]; exact hpl)) ((hG.gw hGK).mono (fun b hb => hyS b (hfp' b hb)))
  have ha : args.map a.eval = ((cs.set t yc).map val).toArray := by rw [hcs']; apply Array.ext'; simp
  rw [ha]
  refine Calls.mono hcall fun e w' ⟨c, d, x, he, hc, hd, hxx, hvd, hnc, hpd, ⟨Z', y1, y2, y3, y4⟩, hndc, hown, hsame, hgr, hos, htp, hout⟩ => ?_
  subst he
  subst hd
  rw [List.getElem?_set_self htl] at hxx
  simp only [Option.some.injEq] at hxx
  subst hxx
  have hagg := sk_agg hsk
  have hfl : flat d = flat yc := flat_of_val hpd hply hagg.symm hvd
  have hG2 := hG.lend hxc hproot hg y1 y2 y3 y4 hnc hpd hndc (fun b hb => ⟨((hown b hb).1).imp (hfp' b) id, (hown b hb).2⟩) (fun b h1 h2 => hsame b h1 (fun hm => h2 (hfp' b hm))) hgr hos htp hout hfl hsk hagg
  refine ⟨Z', cput o.dst c (cback Sc r p (er yc) x0c d), fun b hb => y1 b (z1 b hb), fun b hb => ?_, by rw [er_cput, er_cback hxc, hc], hG2.put o.dst⟩
  rcases (y2 b hb).1 with h | h
  · exact z2 b h
  · exact .inr (Nat.le_trans hG.grew h)
theorem al_lend {ops : Array Oper} {l : List Oper} {N : List AV → Prop} {o : Oper} {f : Nat} {args : Array Operand} {ats : Array TypeId} {S vs S' : List AV} {r : Nat} {p : List Nat} (t : Nat) {x0 y v rv : AV} (hgd : gchk ops S o = some true)
    (ho : o.op = .call { callee := .value (.func f), args, argTypes := ats }) (hf : ∀ vs w, (callFunc f vs).run P w = .ok (.enter f vs) w)
    (hvs : ards S args.toList = some vs) (ht : vs[t]? = some (aview r p y)) (hx : S[r]? = some x0) (hp : plA (rootA x0) = true) (hy : aget S r p = some y) (hly : lendA y = true)
    (hpl : plAs (vs.set t y) = true) (hS : SoundM P f (vs.set t y) t rv v) (hsk : skA y v = true) (hp' : aput o.dst rv (aback S r p y v) = S') (h : AL P false ops l S' N) : AL P false ops (o :: l) S N := by
  subst hp'
  exact al_op hgd (call_lend ho hf hvs ht hx hp hy hly hpl hS hsk) h
end
end Go.Bv

/-! Steps: append, literals, bytes to text. -/
namespace Go.Bv
open Go Go.RowKit
set_option linter.unusedSimpArgs false
set_option linter.unusedVariables false

/-- The bytes of a list of these. -/
def byteOf : AV → UInt8
  | .int _ n => UInt8.ofNat n.toNat
  | _ => 0
def isByte : AV → Bool
  | .int .u8 _ => true
  | _ => false
def bytesOf (ys : List AV) : ByteArray := ⟨(ys.map byteOf).toArray⟩
section
variable {K : Nat → Prop} {w0 : World} {Z : Nat → Prop} {Sc L : List CV} {a : Act} {w : World} {P : Program} {Γ : Tab} {S : List AV} {ops : Array Oper} {l : List Oper} {o : Oper} {N : List AV → Prop}

theorem al_append (hT : TabOk P Γ) {T E : Nat} {x y : Operand} {z dv ev : AV} {s : Nat} {xs ys S' S'' : List AV} (hg : gchk ops S o = some true) (ho : o.op = .call { callee := .builtin .append, args := #[x, y], argTypes := #[T, T] }) (hk : Γ.kind T = .sl E) (hE : Γ.kind E ≠ .no)
    (hz : Γ.zero E = some z) (hs0 : Γ.size E ≠ 0) (hx : ard S x = some dv) (ht : atake S dv = some (.lst true s xs, S')) (hs : (s = 0 ∧ xs = []) ∨ s = Γ.size E)
    (hy : ard S y = some ev) (hel : aels S ev = some ys) (hys : ys.all (fun u => alen u == Γ.size E) = true)
    (hm : xs.length + ys.length ≤ 9223372036854775807) (hbnd : (xs.length + ys.length) * Γ.bytes E ≤ 140737488355328) (hp : aput o.dst (.lst true (Γ.size E) (xs ++ ys)) S' = S'') (h : AL P false ops l S'' N) : AL P false ops (o :: l) S N := by
  subst hp
  exact al_op hg (ao_append hT ho hk hE hz hs0 hx ht hs hy hel hys hm hbnd) h
theorem al_build (hT : TabOk P Γ) {T : Nat} {parts : Array (Nat × Operand)} {fs : List Nat} {zs vs vs' S' S'' : List AV} (hg : gchk ops S o = some true) (ho : o.op = .build T parts) (hk : Γ.kind T = .st fs) (hz : Γ.zero T = some (.agg zs))
    (hb : bldOk Γ T fs zs = true) (hvs : ards S (parts.toList.map (·.2)) = some vs) (ht : atakes S vs = some (vs', S')) (hc : bldChk zs ((parts.toList.map (·.1)).zip vs') = true)
    (hp : aput o.dst (.agg (asetAll zs ((parts.toList.map (·.1)).zip vs'))) S' = S'') (h : AL P false ops l S'' N) : AL P false ops (o :: l) S N := by
  subst hp
  exact al_op hg (ao_build hT ho hk hz hb hvs ht hc) h
theorem al_bslice (hT : TabOk P Γ) {T E n : Nat} {parts : Array (Nat × Operand)} {z : AV} {vs vs' S' S'' : List AV} (hg : gchk ops S o = some true) (ho : o.op = .buildSlice T n parts) (hk : Γ.kind T = .sl E) (hE : Γ.kind E ≠ .no) (hz : Γ.zero E = some z)
    (hs0 : Γ.size E ≠ 0) (hn : n * Γ.size E ≤ 16777216) (hvs : ards S (parts.toList.map (·.2)) = some vs) (ht : atakes S vs = some (vs', S')) (hc : bldChk (List.replicate n z) ((parts.toList.map (·.1)).zip vs') = true)
    (hp : aput o.dst (.lst true (Γ.size E) (asetAll (List.replicate n z) ((parts.toList.map (·.1)).zip vs'))) S' = S'') (h : AL P false ops l S'' N) : AL P false ops (o :: l) S N := by
  subst hp
  exact al_op hg (ao_buildSlice hT ho hk hE hz hs0 hn hvs ht hc) h
theorem as_append (hT : TabOk P Γ) {T E : Nat} {x y : Operand} {z dv ev : AV} {s : Nat} {xs ys S' S'' : List AV} (hg : gchk ops S o = some true) (ho : o.op = .call { callee := .builtin .append, args := #[x, y], argTypes := #[T, T] }) (hk : Γ.kind T = .sl E) (hE : Γ.kind E ≠ .no)
    (hz : Γ.zero E = some z) (hs0 : Γ.size E ≠ 0) (hx : ard S x = some dv) (ht : atake S dv = some (.lst true s xs, S')) (hs : (s = 0 ∧ xs = []) ∨ s = Γ.size E)
    (hy : ard S y = some ev) (hel : aels S ev = some ys) (hys : ys.all (fun u => alen u == Γ.size E) = true)
    (hm : xs.length + ys.length ≤ 9223372036854775807) (hbnd : (xs.length + ys.length) * Γ.bytes E ≤ 140737488355328) (hp : aput o.dst (.lst true (Γ.size E) (xs ++ ys)) S' = S'') : AS P ops o S S'' := by
  subst hp
  exact .inl ⟨hg, ao_append hT ho hk hE hz hs0 hx ht hs hy hel hys hm hbnd⟩
theorem as_build (hT : TabOk P Γ) {T : Nat} {parts : Array (Nat × Operand)} {fs : List Nat} {zs vs vs' S' S'' : List AV} (hg : gchk ops S o = some true) (ho : o.op = .build T parts) (hk : Γ.kind T = .st fs) (hz : Γ.zero T = some (.agg zs))
    (hb : bldOk Γ T fs zs = true) (hvs : ards S (parts.toList.map (·.2)) = some vs) (ht : atakes S vs = some (vs', S')) (hc : bldChk zs ((parts.toList.map (·.1)).zip vs') = true)
    (hp : aput o.dst (.agg (asetAll zs ((parts.toList.map (·.1)).zip vs'))) S' = S'') : AS P ops o S S'' := by
  subst hp
  exact .inl ⟨hg, ao_build hT ho hk hz hb hvs ht hc⟩
theorem as_bslice (hT : TabOk P Γ) {T E n : Nat} {parts : Array (Nat × Operand)} {z : AV} {vs vs' S' S'' : List AV} (hg : gchk ops S o = some true) (ho : o.op = .buildSlice T n parts) (hk : Γ.kind T = .sl E) (hE : Γ.kind E ≠ .no) (hz : Γ.zero E = some z)
    (hs0 : Γ.size E ≠ 0) (hn : n * Γ.size E ≤ 16777216) (hvs : ards S (parts.toList.map (·.2)) = some vs) (ht : atakes S vs = some (vs', S')) (hc : bldChk (List.replicate n z) ((parts.toList.map (·.1)).zip vs') = true)
    (hp : aput o.dst (.lst true (Γ.size E) (asetAll (List.replicate n z) ((parts.toList.map (·.1)).zip vs'))) S' = S'') : AS P ops o S S'' := by
  subst hp
  exact .inl ⟨hg, ao_buildSlice hT ho hk hE hz hs0 hn hvs ht hc⟩

theorem flats_bytes : ∀ (ys : List CV), (ers ys).all isByte = true → ∃ ns : List Int, flats ys = ns.map (Value.int .u8) ∧ ns.length = ys.length ∧ (ers ys).map byteOf = ns.map (fun n => UInt8.ofNat n.toNat)
  | [], _ => ⟨[], rfl, rfl, rfl⟩
  | y :: ys, h => by
    simp only [ers, List.all_cons, Bool.and_eq_true] at h
    obtain ⟨ns, h1, h2, h3⟩ := flats_bytes ys h.2
    have h0 := h.1
    cases y <;> simp only [er, isByte] at h0 <;> try (cases h0; done)
    rename_i k n
    cases k <;> simp only [isByte] at h0 <;> try (cases h0; done)
    exact ⟨n :: ns, by simp [flats, flat, h1], by simp [h2], by simp only [ers, er, List.map_cons, byteOf, h3]⟩
theorem bstr_sound (hT : TabOk P Γ) (h : Good K w0 Z Sc L a w) {T D E : Nat} {x : Operand} (ho : o.op = .convert T D x) (hk : Γ.kind T = .sl E) (hE : Γ.kind E = .int .u8) (hD : Γ.kind D = .str) {v : AV} (hx : ard (ers Sc) x = some v) {ys : List AV} (hel : aels (ers Sc) v = some ys)
    (hby : ys.all isByte = true) : ES P K w0 Z L a w o (aput o.dst (.str (bytesOf ys)) (ers Sc)) := by
  obtain ⟨B, cb, ysC, vy, rfl, p1, p2, p3, p4⟩ := els_sound h hx hel
  obtain ⟨ns, n1, n2, n3⟩ := flats_bytes ysC hby
  have hG := (h.add (c := .str (bytesOf (ers ysC))) (by simp [Ok]) (by simp [fp]) (by simp [NR, Pl])).put o.dst
  refine es_value (v := .string (bytesOf (ers ysC))) (w' := w) ?_ (Sc' := cput o.dst (.str (bytesOf (ers ysC))) Sc) (by rw [er_cput]; simp [er]) hG
  have hrun : (convert T D (.slice B ysC.length cb)).run P w = .ok (.string (bytesOf (ers ysC))) w := by
    rw [run_convert_bytes_string w T D E B ysC.length cb (hT.sl T E hk) (hT.int E .u8 hE) (hT.str D hD)]
    have hres : bytesOf (ers ysC) = ns.foldl (fun r n => r.push (UInt8.ofNat n.toNat)) ByteArray.empty := by
      rw [foldl_push_bytes]
      simp only [bytesOf, n3, ByteArray.empty, ByteArray.emptyWithCapacity]
      congr 1
      simp
      try rfl
    cases B with
    | none =>
      have hy0 : ysC = [] := by
        rcases p4 with p4 | ⟨b, hb, _⟩
        · exact List.eq_nil_of_length_eq_zero p4
        · cases hb
      subst hy0
      have : ns = [] := List.eq_nil_of_length_eq_zero (by simpa using n2)
      subst this
      simp [Conv.bytesToString, hres]
    | some b =>
      have hl : (loadCells b ysC.length).run P w = .ok (ns.map (Value.int .u8)).toArray w := by
        have hc : ∀ j u, (ns.map (Value.int .u8))[j]? = some u → w.cell? (b.add j) = some u := by
          rcases p4 with p4 | ⟨b', hb, hc⟩
          · intro j u hj
            have : ns = [] := List.eq_nil_of_length_eq_zero (by omega)
            subst this; simp at hj
          · simp only [Option.some.injEq] at hb
            subst hb
            rw [← n1]; exact hc
        have := run_loadCells_list (P := P) w b (ns.map (Value.int .u8)) hc
        simpa [n2] using this
      rw [run_bytesToString w b ysC.length cb ns hl, hres]
  unfold execOp
  simp only [ho, Sem.run_bind, vy, hrun, Result.andThen_ok]
  first | rfl | simp
theorem ao_bstr (hT : TabOk P Γ) {T D E : Nat} {x : Operand} (ho : o.op = .convert T D x) (hk : Γ.kind T = .sl E) (hE : Γ.kind E = .int .u8) (hD : Γ.kind D = .str) {v : AV} (hx : ard S x = some v) {ys : List AV} (hel : aels S v = some ys)
    (hby : ys.all isByte = true) : AO P o S (aput o.dst (.str (bytesOf ys)) S) := es_AO fun K w0 Z Sc a w e hG => by subst e; exact bstr_sound hT hG ho hk hE hD hx hel hby
theorem al_bstr (hT : TabOk P Γ) {T D E : Nat} {x : Operand} {v : AV} {ys S' : List AV} (hg : gchk ops S o = some true) (ho : o.op = .convert T D x) (hk : Γ.kind T = .sl E) (hE : Γ.kind E = .int .u8) (hD : Γ.kind D = .str) (hx : ard S x = some v) (hel : aels S v = some ys)
    (hby : ys.all isByte = true) (hp : aput o.dst (.str (bytesOf ys)) S = S') (h : AL P false ops l S' N) : AL P false ops (o :: l) S N := by
  subst hp
  exact al_op hg (ao_bstr hT ho hk hE hD hx hel hby) h
end
end Go.Bv

/-! Is a list nil? Lists without room may bear any size. -/
namespace Go.Bv
open Go Go.RowKit
set_option linter.unusedSimpArgs false
set_option linter.unusedVariables false

/-- How long is the list that stands here? -/
def lenOf : AV → Option Nat
  | .lst _ _ xs => some xs.length
  | .ref _ _ _ n => some n
  | _ => none
/-- What a test for nil tells. -/
def NilIf (n : Nat) (b : Bool) : Prop := n ≠ 0 → b = false
section
variable {K : Nat → Prop} {w0 : World} {Z : Nat → Prop} {Sc L : List CV} {a : Act} {w : World} {P : Program} {Γ : Tab} {S : List AV} {ops : Array Oper} {l : List Oper} {o : Oper} {N : List AV → Prop} {Q : Exit → List AV → Prop}

theorem isnil_sound (h : Good K w0 Z Sc L a w) {x : Operand} {v : AV} (hx : ard (ers Sc) x = some v) {n : Nat} (hn : lenOf v = some n) : ∃ A c, a.eval x = .slice A n c ∧ (n ≠ 0 → A.isNone = false) := by
  obtain ⟨cx, rfl, vx, hrd, hnt⟩ := h.rd hx
  cases cx <;> simp only [er, lenOf] at hn <;> try (cases hn; done)
  · rename_i o s A c xs
    simp only [Option.some.injEq] at hn
    have hk := hrd.ok
    simp only [Ok] at hk
    have hl : (ers xs).length = xs.length := by simp [ers_eq]
    refine ⟨A, c, by rw [← vx, ← hn, hl]; rfl, fun h0 => ?_⟩
    rcases hk.1.2.1 with h1 | ⟨b, rfl, _⟩
    · exact absurd (by rw [← hn, hl]; exact h1) h0
    · rfl
  · rename_i r p lo m v
    simp only [Option.some.injEq] at hn
    subst hn
    have hr := hrd.refOk
    simp only [RefOk] at hr
    obtain ⟨x0, s, A, c, xs, l, q1, q2, q3, hlo, hh⟩ := hr
    have hokx := ((okL_cut q1).1 ((okL_append _ _).1 h.ok).1).2.1
    have hoky : Ok w Z (.lst true s A c xs) := ok_get p _ _ _ l q3 (ok_root hokx).1
    obtain ⟨A', c', rfl, hk', _⟩ := sub_ok hoky hlo hh
    refine ⟨A', c', by rw [← vx]; rfl, fun h0 => ?_⟩
    have hlen : ((xs.drop lo).take m).length = m := by simp; omega
    simp only [Ok] at hk'
    rcases hk'.1.2.1 with h1 | ⟨b, rfl, _⟩
    · exact absurd (hlen ▸ h1) h0
    · rfl
theorem al_nilOf {f : Bool → Bool} (hg : gchk ops S o = some true) (hrun : ∀ (A : Option Addr) (n c : Nat) (a : Act) (w : World) (x : Operand), a.eval x = .slice A n c → (∃ T T', (o.op = .binOp .eql T x (.const (.slice none 0 0)) T' ∨ o.op = .binOp .neq T x (.const (.slice none 0 0)) T')) → (execOp a.eval o).run P w = .ok (.value (.bool (f A.isNone))) w)
    {x : Operand} (ho : ∃ T T', (o.op = .binOp .eql T x (.const (.slice none 0 0)) T' ∨ o.op = .binOp .neq T x (.const (.slice none 0 0)) T')) {v : AV} (hx : ard S x = some v) {n : Nat} (hn : lenOf v = some n)
    (h : ∀ b, (n ≠ 0 → b = false) → AL P false ops l (aput o.dst (.bool (f b)) S) N) : AL P false ops (o :: l) S N := fun K w0 Z0 a w hF hA Q hQ k hk => by
  have h0 : ops[k]? = some o := by have := hk 0; simpa using this.symm
  obtain ⟨⟨Z, Sc, z1, z2, rfl, hG⟩, hfx⟩ := hA
  obtain ⟨A, c, he, hb⟩ := isnil_sound hG hx hn
  have hr := hrun A n c a w x he ho
  have hA' : At K w0 Z0 (ers Sc) a w := ⟨⟨Z, Sc, z1, z2, rfl, hG⟩, hfx⟩
  have hstep : o.wp P a w (fun a' w' => At K w0 Z0 (aput o.dst (.bool (f A.isNone)) (ers Sc)) a' w') Q := by
    have := ao_of (P := P) (o := o) (S := ers Sc) (S' := aput o.dst (.bool (f A.isNone)) (ers Sc))
    have hfree := hF o (by simp)
    unfold Oper.wp
    rw [hr]
    refine ⟨⟨Z, cput o.dst (.bool (f A.isNone)) Sc, z1, z2, by rw [er_cput]; simp [er], ?_⟩, fun t v ht => ?_, hfx.2⟩
    · have hG2 := (hG.add (c := .bool (f A.isNone)) (by simp [Ok]) (by simp [fp]) (by simp [NR, Pl])).put o.dst
      exact hG2
    · rw [put_other (fun e => by rw [e] at hfree; simp only [Kp.free] at hfree; rw [hfree] at ht; cases ht)]
      exact hfx.1 t v ht
  simp only [List.length_cons, List.range'_succ, wpOps, h0, gchk_wanted hA' hg, if_true]
  refine .inl (Oper.wp_mono (fun a' w' hA2 => h A.isNone hb K w0 Z0 a' w' (fun q hq => hF q (by simp [hq])) hA2 Q hQ (k + 1) fun j => ?_) hstep)
  have := hk (j + 1)
  rw [List.getElem?_cons_succ] at this
  rw [this]; congr 1; omega
theorem al_isnil (hT : TabOk P Γ) {T T' E : Nat} {x : Operand} {v : AV} {n : Nat} (hg : gchk ops S o = some true) (ho : o.op = .binOp .eql T x (.const (.slice none 0 0)) T') (hk : Γ.kind T = .sl E) (hx : ard S x = some v) (hn : lenOf v = some n)
    (h : ∀ b, NilIf n b → AL P false ops l (aput o.dst (.bool b) S) N) : AL P false ops (o :: l) S N := by
  refine al_nilOf (f := id) (x := x) hg (fun A n c a w x' he ho' => ?_) ⟨T, T', .inl ho⟩ hx hn h
  obtain ⟨T1, T2, ho' | ho'⟩ := ho'
  · rw [ho] at ho'
    simp only [Op.binOp.injEq, true_and] at ho'
    obtain ⟨rfl, rfl, _⟩ := ho'
    unfold execOp
    have hev : a.eval (.const (.slice none 0 0)) = .slice none 0 0 := rfl
    have hgd : ∀ w, (eqGuard .eql T x (.const (.slice none 0 0)) (.slice A n c) (.slice none 0 0)).run P w = .ok () w := fun w => rfl
    simp only [ho, he, hev, Sem.run_bind, hgd, binOp, run_equal_slice_nil w T E A n c (hT.sl T E hk), Result.andThen_ok, Sem.run_pure, id]
  · rw [ho] at ho'
    simp at ho'
theorem al_notnil (hT : TabOk P Γ) {T T' E : Nat} {x : Operand} {v : AV} {n : Nat} (hg : gchk ops S o = some true) (ho : o.op = .binOp .neq T x (.const (.slice none 0 0)) T') (hk : Γ.kind T = .sl E) (hx : ard S x = some v) (hn : lenOf v = some n)
    (h : ∀ b, NilIf n b → AL P false ops l (aput o.dst (.bool (!b)) S) N) : AL P false ops (o :: l) S N := by
  refine al_nilOf (f := fun b => !b) (x := x) hg (fun A n c a w x' he ho' => ?_) ⟨T, T', .inr ho⟩ hx hn h
  obtain ⟨T1, T2, ho' | ho'⟩ := ho'
  · rw [ho] at ho'
    simp at ho'
  · rw [ho] at ho'
    simp only [Op.binOp.injEq, true_and] at ho'
    obtain ⟨rfl, rfl, _⟩ := ho'
    unfold execOp
    have hev : a.eval (.const (.slice none 0 0)) = .slice none 0 0 := rfl
    have hgd : ∀ w, (eqGuard .neq T x (.const (.slice none 0 0)) (.slice A n c) (.slice none 0 0)).run P w = .ok () w := fun w => rfl
    simp only [ho, he, hev, Sem.run_bind, hgd, binOp, run_equal_slice_nil w T E A n c (hT.sl T E hk), Result.andThen_ok, Sem.run_pure]

/-- An empty list without room may bear any size. -/
theorem At.tag {K : Kp P} {Z0 : Nat → Prop} (hA : At K w0 Z0 S a w) {r : Nat} {p : List Nat} {x0 : AV} (s : Nat) (hx : S[r]? = some x0) (hp : plA (rootA x0) = true) (hy : aget S r p = some (.lst true 0 [])) : At K w0 Z0 (asetc S r p (.lst true s [])) a w := by
  obtain ⟨⟨Z, Sc, z1, z2, rfl, hG⟩, hfx⟩ := hA
  obtain ⟨x0c, hxc, rfl⟩ : ∃ x0c, Sc[r]? = some x0c ∧ er x0c = x0 := by
    rw [ers_eq, List.getElem?_map] at hx
    cases hq : Sc[r]? with
    | none => simp [hq] at hx
    | some q => simp only [hq, Option.map_some, Option.some.injEq] at hx; exact ⟨q, rfl, hx⟩
  have hproot : Pl (rootC x0c).1 := pl_er _ (by rw [er_root]; exact hp)
  obtain ⟨yc, l, hg, hye⟩ : ∃ yc l, cgetN (rootC x0c).1 (rootC x0c).2 p = some (yc, l) ∧ er yc = .lst true 0 [] := by
    unfold aget at hy
    rw [hx] at hy
    simp only at hy
    rw [← er_root] at hy
    exact er_get' p _ _ _ hy
  obtain ⟨A, c, xs, rfl, hxs⟩ := er_lst hye
  have hnil : xs = [] := by cases xs <;> simp [ers] at hxs ⊢
  subst hnil
  have hokx := ((okL_cut hxc).1 ((okL_append _ _).1 hG.ok).1).2.1
  have hoky : Ok w Z (.lst true 0 A c []) := ok_get p _ _ _ l hg (ok_root hokx).1
  have hc : c = 0 := by
    by_cases hc : c = 0
    · exact hc
    · simp only [Ok] at hoky; exact absurd rfl (hoky.1.2.2 rfl hc).1
  subst hc
  obtain ⟨hG2, _⟩ := hG.reset (y' := .lst true s A 0 []) hxc hproot hg (by simp [flat]) (by simp [Ok, HdrOk, OkL, fps, flats]) (by simp [Pl, PlL]) (by simp only [fp]; exact Fits.refl _) (by simp)
  exact ⟨⟨Z, _, z1, z2, by rw [er_csetc]; simp [er, ers], hG2⟩, hfx⟩
theorem aw_tag {c : Code} {r : Nat} {p : List Nat} {x0 : AV} (s : Nat) (hx : S[r]? = some x0) (hp : plA (rootA x0) = true) (hy : aget S r p = some (.lst true 0 [])) {S' : List AV} (hS : asetc S r p (.lst true s []) = S') (h : AW P c S' Q) : AW P c S Q := by
  subst hS
  exact fun K w0 Z0 a w hF hA => h K w0 Z0 a w hF (hA.tag s hx hp hy)
theorem aw_ret_tag {r : Nat} {p : List Nat} {x0 : AV} (s : Nat) {S' : List AV} (hx : S[r]? = some x0) (hp : plA (rootA x0) = true) (hy : aget S r p = some (.lst true 0 [])) (hS : asetc S r p (.lst true s []) = S') (h : Q .ret S') : AW P .ret S Q :=
  aw_tag s hx hp hy hS (aw_ret h)
theorem al_movetup {t : Nat} {vs S' : List AV} (hg : gchk ops S o = some true) (ho : o.op = .move (.tmp t)) (ht : S[t]? = some (.tup vs)) (hp : aput o.dst (.tup vs) (S.set t .undef) = S') (h : AL P false ops l S' N) : AL P false ops (o :: l) S N := by
  subst hp
  exact al_op hg (ao_movetup ho ht) h
/-- A call that is lent a list. -/
theorem al_lendL {f : Nat} {args : Array Operand} {ats : Array TypeId} {vs S' xs : List AV} {r n s : Nat} {p : List Nat} (t : Nat) {x0 v rv : AV} (hgd : gchk ops S o = some true)
    (ho : o.op = .call { callee := .value (.func f), args, argTypes := ats }) (hf : ∀ vs w, (callFunc f vs).run P w = .ok (.enter f vs) w)
    (hvs : ards S args.toList = some vs) (ht : vs[t]? = some (.ref r p 0 n)) (hx : S[r]? = some x0) (hp : plA (rootA x0) = true) (hy : aget S r p = some (.lst true s xs)) (hn : xs.length = n)
    (hpl : plAs (vs.set t (.lst true s xs)) = true) (hS : SoundM P f (vs.set t (.lst true s xs)) t rv v) (hsk : skA (.lst true s xs) v = true) (hp' : aput o.dst rv (aback S r p (.lst true s xs) v) = S') (h : AL P false ops l S' N) : AL P false ops (o :: l) S N := by
  subst hn
  exact al_lend t hgd ho hf hvs (by simpa [aview] using ht) hx hp hy rfl hpl hS hsk hp' h
end
end Go.Bv

/-! What slices.Grow needs: the capacity of a list without room; append of n zeros to it. -/
namespace Go.Bv
open Go Go.RowKit
set_option linter.unusedSimpArgs false
set_option linter.unusedVariables false

section
variable {K : Nat → Prop} {w0 : World} {Z : Nat → Prop} {Sc L : List CV} {a : Act} {w : World} {P : Program} {Γ : Tab} {S : List AV} {ops : Array Oper} {l : List Oper} {o : Oper} {N : List AV → Prop}

mutual
/-- The place on which a view leans. -/
def vroot : AV → Option (Nat × List Nat)
  | .ref r p _ _ => some (r, p)
  | .agg xs => vroots xs
  | _ => none
def vroots : List AV → Option (Nat × List Nat)
  | [] => none
  | x :: xs => match vroot x with | some (r, p) => some (r, p.dropLast) | none => vroots xs
end
/-- A call that is lent what a view leans on. -/
theorem al_lendV {f : Nat} {args : Array Operand} {ats : Array TypeId} {vs S' : List AV} {r : Nat} {p : List Nat} (t : Nat) {x0 y u v rv : AV} (hgd : gchk ops S o = some true)
    (ho : o.op = .call { callee := .value (.func f), args, argTypes := ats }) (hf : ∀ vs w, (callFunc f vs).run P w = .ok (.enter f vs) w)
    (hvs : ards S args.toList = some vs) (ht : vs[t]? = some u) (hr : vroot u = some (r, p)) (hx : S[r]? = some x0) (hp : plA (rootA x0) = true) (hy : aget S r p = some y) (hu : aview r p y = u) (hly : lendA y = true)
    (hpl : plAs (vs.set t y) = true) (hS : SoundM P f (vs.set t y) t rv v) (hsk : skA y v = true) (hp' : aput o.dst rv (aback S r p y v) = S') (h : AL P false ops l S' N) : AL P false ops (o :: l) S N :=
  al_lend t hgd ho hf hvs (by rw [ht, hu]) hx hp hy hly hpl hS hsk hp' h
/-- A struct that is only looked at, boxed: a pointer to what never turns. -/
theorem ao_boxv {T : Nat} {x : Operand} (ho : o.op = .box T x) {vs : List AV} (hx : ard S x = some (.agg vs)) : AO P o S (aput o.dst (.ip (.agg vs)) S) := ao_of fun K w0 Z0 a w hGK ⟨Z, Sc, z1, z2, hSc, hG⟩ Q => by
  subst hSc
  obtain ⟨c, hc, hval, hrd, hnt⟩ := hG.rd hx
  obtain ⟨zs, rfl, rfl⟩ := er_agg hc
  have hnew := heap_alloc_new w (.cells (flats zs).toArray T)
  have hold : ∀ b, b < w.heap.size → (w.alloc (.cells (flats zs).toArray T)).heap[b]? = w.heap[b]? := fun b hb => heap_alloc_old w _ b hb
  have hA := hG.alloc (.cells (flats zs).toArray T)
  have hsz : (w.alloc (.cells (flats zs).toArray T)).heap.size = w.heap.size + 1 := size_alloc _ _
  have hfl : ∀ b ∈ fps (Sc ++ []), b < w.heap.size := fun b hb => hG.lt b (.inl hb)
  have hZw : ∀ b, (fun b => Z b ∨ b = w.heap.size) b → b < w.heap.size + 1 := fun b hb => by
    rcases hb with hb | hb
    · have := hG.lt b (.inr hb); omega
    · omega
  have hG2 : Good K w0 (fun b => Z b ∨ b = w.heap.size) Sc [] a (w.alloc (.cells (flats zs).toArray T)) :=
    { hA with
      ok := OkL.congr (fun b hb => .inl hb) (fun _ _ => rfl) _ (fun _ _ => rfl) hA.ok
      apart := fun b hb hz => by
        rcases hz with hz | hz
        · exact hA.apart b hb hz
        · have := hfl b hb; omega
      lt := fun b hb => by
        rw [hsz]
        rcases hb with hb | hb
        · have := hfl b hb; omega
        · exact hZw b hb }
  have hok : Ok (w.alloc (.cells (flats zs).toArray T)) (fun b => Z b ∨ b = w.heap.size) (.agg zs) :=
    hrd.ok.congr (fun b hb => .inl hb) (fun b hb => hold b (hG.lt b (.inr hb))) _ (fun b hb => by rw [hrd.fp] at hb; simp at hb)
  have hrd2 : Rd (w.alloc (.cells (flats zs).toArray T)) (fun b => Z b ∨ b = w.heap.size) Sc (.ip ⟨w.heap.size, 0, none⟩ (.agg zs)) := by
    refine ⟨by simpa only [RefOk] using hrd.refOk, by simpa only [Wf] using hrd.wf, ?_, by simp [fp], .inr (by simpa only [NoOwn, Pl] using hrd.sorted)⟩
    simp only [Ok]
    refine ⟨trivial, by simp, ?_, hrd.fp, by simpa only [Ok] using hok⟩
    rw [cellsAt_iff rfl]
    intro j u hj
    simp only [flat] at hj
    simp only [World.cell?, hnew, Nat.zero_add, Option.isSome_none, Bool.false_eq_true, if_false]
    simpa using hj
  have hrun : (execOp a.eval o).run P w = .ok (.value (.pointer (some ⟨w.heap.size, 0, none⟩))) (w.alloc (.cells (flats zs).toArray T)) := by
    unfold execOp
    simp only [ho]
    rw [← hval]
    have hcs : (val (.agg zs)).cells = (flats zs).toArray := rfl
    simp only [Instr.box, newVar, Sem.run_bind, hcs, run_newRow, Result.andThen_ok, Sem.run_pure]
  unfold Oper.wp
  rw [hrun]
  refine ⟨fun b => Z b ∨ b = w.heap.size, cput o.dst (.ip ⟨w.heap.size, 0, none⟩ (.agg zs)) Sc, fun b hb => .inl (z1 b hb), fun b hb => ?_, by rw [er_cput]; simp [er], ?_⟩
  · rcases hb with hb | hb
    · exact z2 b hb
    · exact .inr (by rw [hb]; exact hG.grew)
  · have := hG2.putRd o.dst hrd2
    simpa [val, val1, flat] using this
theorem al_boxv {T : Nat} {x : Operand} {vs S' : List AV} (hg : gchk ops S o = some true) (ho : o.op = .box T x) (hx : ard S x = some (.agg vs)) (hp : aput o.dst (.ip (.agg vs)) S = S') (h : AL P false ops l S' N) : AL P false ops (o :: l) S N := by
  subst hp
  exact al_op hg (ao_boxv ho hx) h
/-- A list without room. -/
def noRoom (S : List AV) : AV → Bool
  | .lst true 0 [] => true
  | .ref r p 0 0 => (match aget S r p with | some (.lst true 0 []) => true | _ => false)
  | _ => false
theorem noRoom_sound (h : Good K w0 Z Sc L a w) {x : Operand} {v : AV} (hx : ard (ers Sc) x = some v) (hn : noRoom (ers Sc) v = true) : ∃ A, a.eval x = .slice A 0 0 := by
  obtain ⟨cx, rfl, vx, hrd, hnt⟩ := h.rd hx
  have key : ∀ {A c}, Ok w Z (.lst true 0 A c []) → c = 0 := by
    intro A c hk
    simp only [Ok] at hk
    by_cases hc : c = 0
    · exact hc
    · exact absurd rfl (hk.1.2.2 rfl hc).1
  cases cx with
  | lst o s A c xs =>
    simp only [er] at hn
    cases o with
    | false => simp [noRoom] at hn
    | true => cases s with
      | succ s => simp [noRoom] at hn
      | zero => cases xs with
        | cons q xs => simp [noRoom, ers] at hn
        | nil =>
          have := key hrd.ok
          subst this
          exact ⟨A, by rw [← vx]; rfl⟩
  | ref r p lo m v =>
    have hr := hrd.refOk
    simp only [RefOk] at hr
    obtain ⟨x0, s, A, c, xs, l, q1, q2, q3, hlo, hh⟩ := hr
    simp only [er] at hn
    cases lo with
    | succ lo => simp [noRoom] at hn
    | zero => cases m with
      | succ m => simp [noRoom] at hn
      | zero =>
        have hga : aget (ers Sc) r p = some (.lst true s (ers xs)) := by
          have := er_cget (Sc := Sc) (r := r) (p := p) (y := .lst true s A c xs) (l := l) (by simp [cget, q1, q3])
          simpa [er] using this
        simp only [noRoom, hga] at hn
        cases s with
        | succ s => simp at hn
        | zero => cases xs with
          | cons q xs => simp [ers] at hn
          | nil =>
            have hokx := ((okL_cut q1).1 ((okL_append _ _).1 h.ok).1).2.1
            have hoky : Ok w Z (.lst true 0 A c []) := ok_get p _ _ _ l q3 (ok_root hokx).1
            have := key hoky
            subst this
            obtain ⟨A', c', rfl, hloc, rfl, _⟩ := hh
            exact ⟨A', by rw [← vx]; rfl⟩
  | undef v => simp [er, noRoom] at hn
  | bool v => simp [er, noRoom] at hn
  | int k v => simp [er, noRoom] at hn
  | str v => simp [er, noRoom] at hn
  | agg v => simp [er, noRoom] at hn
  | tup v => simp [er, noRoom] at hn
  | fn f v => simp [er, noRoom] at hn
  | ip b v => simp [er, noRoom] at hn
  | «at» r p b => simp [er, noRoom] at hn
  | box b t v => simp [er, noRoom] at hn

theorem cap0_sound (hT : TabOk P Γ) (h : Good K w0 Z Sc L a w) {T E : Nat} {x : Operand} (ho : o.op = .call { callee := .builtin .cap, args := #[x], argTypes := #[T] }) (hk : Γ.kind T = .sl E) {v : AV} (hx : ard (ers Sc) x = some v) (hn : noRoom (ers Sc) v = true) :
    ES P K w0 Z L a w o (aput o.dst (.int .i64 0) (ers Sc)) := by
  obtain ⟨A, he⟩ := noRoom_sound h hx hn
  have hrun : (execOp a.eval o).run P w = .ok (.value (.int .i64 0)) w := by
    unfold execOp
    simp [ho, resolve, invoke, builtin, he, Builtin.cap_, run_underlying (hT.sl T E hk), goInt]
  refine es_value hrun (Sc' := cput o.dst (.int .i64 0) Sc) (by rw [er_cput]; simp [er]) ?_
  have := (h.add (c := .int .i64 0) (by simp [Ok]) (by simp [fp]) (by simp [NR, Pl])).put o.dst
  simpa [val, val1, flat] using this

theorem run_append_made (t k ty e : TypeId) (i : TypeInfo) (z : Value) (kd : IntKind) (ht : P.underlying t = some (.slice e)) (hk : P.underlying k = some (.int kd)) (hi : P.info? e = some i) (hz : i.zero = some z) (hzs : z.cells.size = i.size)
    (A : Option Addr) (n : Nat) (h0 : 0 < n) (hs : i.size ≠ 0) (h63 : (n : Int) ≤ 9223372036854775807) (h48 : n * i.bytes ≤ 281474976710656) :
    (Builtin.append_ #[t, k] ty #[.slice A 0 0, .int .i64 n]).run P w =
      .ok (.slice (some ⟨w.heap.size, 0, none⟩) n (grownCap w n 0 e)) (w.drew.alloc (.cells (Builtin.zeroCells z.cells n ++ Builtin.zeroCells z.cells (grownCap w n 0 e - n)) e)) := by
  have hn : n ≠ 0 := by omega
  have hw : IntKind.i64.wrap (n : Int) = n := by rw [IntKind.wrap_i64]; omega
  have h0' : ¬ ((n : Int) < 0) := by omega
  have h63' : ¬ (9223372036854775807 < (n : Int)) := by omega
  have h48' : ¬ (281474976710656 < Builtin.nextslicecap n 0 * i.bytes) := by rw [nextslicecap_zero h0]; omega
  have h48'' : ¬ (281474976710656 < (n : Int) * i.bytes) := by rw [← Int.natCast_mul]; omega
  have hns : n * i.size ≠ 0 := Nat.mul_ne_zero hn hs
  have hfo : (Builtin.firstCells i.size 0 (.slice A 0 0)).run P w.drew = .ok #[] w.drew := run_first_none
  simp [Builtin.append_, run_underlying ht, run_underlying hk, sizeOf, typeInfo, zeroValue, hi, hz, hw, h0', asInt, asIntOf, hn, hs, h63', h48', h48'', Question.forced, hfo, newRow, grownCap]
  exact fun h => absurd h hns

theorem size_zeroCells' (v : Array Value) (n : Nat) : (Builtin.zeroCells v n).size = n * v.size := by simp [Builtin.zeroCells]
theorem appendz_sound (hT : TabOk P Γ) (h : Good K w0 Z Sc L a w) {T I E : Nat} {x y : Operand} {ki : IntKind} (ho : o.op = .call { callee := .builtin .append, args := #[x, y], argTypes := #[T, I] }) (hk : Γ.kind T = .sl E) (hI : Γ.kind I = .int ki) (hE : Γ.kind E ≠ .no)
    {z : AV} (hz : Γ.zero E = some z) (hs0 : Γ.size E ≠ 0) {dv : AV} (hx : ard (ers Sc) x = some dv) (hn : noRoom (ers Sc) dv = true) {n : Nat} (hy : ard (ers Sc) y = some (.int .i64 (n : Int))) (h0 : 0 < n)
    (hm : n ≤ 9223372036854775807) (hbnd : n * Γ.bytes E ≤ 140737488355328) :
    ES P K w0 Z L a w o (aput o.dst (.lst true (Γ.size E) (List.replicate n z)) (ers Sc)) := by
  obtain ⟨A, hvx⟩ := noRoom_sound h hx hn
  obtain ⟨hp, i, v, h1, h2, h3, h4⟩ := hT.zero E z hz
  obtain ⟨i', h1', hsz, hby⟩ := hT.size E hE
  rw [h1] at h1'; cases h1'
  obtain ⟨c, e1, e2, e3, e4, e5⟩ := zcells_ok z hp
  obtain ⟨cy, ey, vy, _⟩ := h.rd hy
  have hvy : a.eval y = .int .i64 n := by rw [← vy]; cases cy <;> simp [er] at ey; obtain ⟨rfl, rfl⟩ := ey; rfl
  have hcl : (flat c).length = i.size := by rw [e2, ← h3, Array.length_toList, h4]
  have hgc := grownCap_ge w n 0 E
  have hgm := grownCap_le_maxLen w n 0 E (by unfold maxLen; omega)
  have hrun := run_append_made (P := P) (w := w) T I o.type E i v ki (hT.sl T E hk) (hT.int I ki hI) h1 h2 h4 A n h0 (by rw [hsz]; exact hs0) (by omega) (by rw [hby]; omega)
  obtain ⟨g, hg⟩ : ∃ g, g = grownCap w n 0 E := ⟨_, rfl⟩
  rw [← hg] at hgc hgm hrun
  have hGd : Good K w0 Z Sc L a w.drew := h.world (fun _ _ => rfl) (Nat.le_refl _) rfl rfl rfl
  have hnewb := heap_alloc_new w.drew (.cells (Builtin.zeroCells v.cells n ++ Builtin.zeroCells v.cells (g - n)) E)
  have hG := (hGd.add (c := .bool false) (by simp [Ok]) (by simp [fp]) (by simp [NR, Pl])).block (M := [.bool false]) (c := .lst true i.size (some ⟨w.heap.size, 0, none⟩) g (List.replicate n c)) (o := .cells (Builtin.zeroCells v.cells n ++ Builtin.zeroCells v.cells (g - n)) E) ?_ ?_ ?_
  · refine es_value (w' := w.drew.alloc (.cells (Builtin.zeroCells v.cells n ++ Builtin.zeroCells v.cells (g - n)) E)) (v := .slice (some ⟨w.heap.size, 0, none⟩) n g) ?_ ?_ (by
      have := hG.put o.dst
      simpa [val, val1, flat] using this)
    · unfold execOp
      simp only [ho, resolve, invoke, builtin, Sem.run_bind, Sem.run_pure, Result.andThen_ok, List.map_toArray, List.map_cons, List.map_nil, hvx, hvy, hrun]
    · rw [er_cput]; simp [er, ers_rep, e1, hsz]
  · simp only [fp, fps_rep n c e4, List.append_nil, fps]
    refine Fits.of_sublist ?_
    split <;> simp
  · simp only [Ok]
    refine ⟨⟨by simpa using hgc, ?_, ?_⟩, fun u hu => ?_, fun h0 => by simp at h0, (okL_iff _).2 fun u hu => ?_⟩
    · refine .inr ⟨_, rfl, rfl, ?_, by simp⟩
      rw [cellsAt_iff rfl]
      intro j u hj
      obtain ⟨q1, q2⟩ := flats_rep c n j u hj
      rw [hcl] at q1 q2
      have hc : (w.drew.alloc (.cells (Builtin.zeroCells v.cells n ++ Builtin.zeroCells v.cells (g - n)) E)).cell? ⟨w.heap.size, 0 + j, none⟩ = (Builtin.zeroCells v.cells n ++ Builtin.zeroCells v.cells (g - n))[0 + j]? := by
        simp only [World.cell?]
        have : (w.drew.alloc (.cells (Builtin.zeroCells v.cells n ++ Builtin.zeroCells v.cells (g - n)) E)).heap[w.heap.size]? = _ := hnewb
        rw [this]
        simp
      rw [hc, Nat.zero_add]
      rw [e2, ← h3] at q1
      have hs0' : j % i.size < v.cells.size := by
        have := (List.getElem?_eq_some_iff.1 q1).1
        simpa using this
      rw [Array.getElem?_toList] at q1
      rw [Array.getElem?_append_left (by rw [size_zeroCells', h4]; exact q2)]
      simp only [Builtin.zeroCells, h4, Array.getElem?_map]
      have hr : (Array.range (n * i.size))[j]? = some j := by simp [q2]
      rw [hr]
      simp only [Option.map_some]
      rw [Array.getElem?_eq_getElem hs0'] at q1
      rw [← q1, getElem!_pos v.cells _ hs0']
    · intro _ hc0
      refine ⟨by rw [hsz]; exact hs0, _, _, _, rfl, rfl, hnewb, hgm, ?_⟩
      simp only [Array.size_append, size_zeroCells', h4, ← Nat.add_mul, Nat.zero_add]
      exact Nat.mul_le_mul_right _ (by omega)
    · rw [List.eq_of_mem_replicate hu]; exact hcl
    · rw [List.eq_of_mem_replicate hu]; exact e5 _ _
  · simp only [NR, Pl]
    rw [plL_iff]
    intro u hu
    rw [List.eq_of_mem_replicate hu]; exact e3

/-- nil, laid into a variable of its type. -/
theorem al_anil (hT : TabOk P Γ) {E : Nat} {S' : List AV} (hg : gchk ops S o = some true) (ho : o.op = .assign (.const (.slice none 0 0))) (hk : Γ.kind o.type = .sl E) (hp : aput o.dst (.lst true (Γ.size E) []) S = S') (h : AL P false ops l S' N) : AL P false ops (o :: l) S N := by
  subst hp
  refine al_op hg (es_AO fun K w0 Z Sc a w e hG => ?_) h
  subst e
  have hrun : (execOp a.eval o).run P w = .ok (.value (.slice none 0 0)) w := by
    unfold execOp
    simp [ho, Act.eval]
  refine es_value hrun (Sc' := cput o.dst (.lst true (Γ.size E) none 0 []) Sc) (by rw [er_cput]; simp [er, ers]) ?_
  have := (hG.add (c := .lst true (Γ.size E) none 0 []) (by simp [Ok, OkL, HdrOk, flats]) (by simp [fp, fps]) (by simp [NR, Pl, PlL])).put o.dst
  simpa [val, val1, flat] using this
theorem ao_tag {S1 S2 : List AV} (h : AO P o S S1) (ht : ∀ (K : Kp P) w0 Z0 a w, At K w0 Z0 S1 a w → At K w0 Z0 S2 a w) : AO P o S S2 := fun K w0 Z0 a w hf hA Q =>
  Oper.wp_mono (fun a' w' hA' => ht K w0 Z0 a' w' hA') (h K w0 Z0 a w hf hA Q)
/-- nil, stored. -/
theorem al_snil (hT : TabOk P Γ) {T E r : Nat} {x : Operand} {p : List Nat} {S1 S2 : List AV} {x0 : AV} (hg : gchk ops S o = some true) (ho : o.op = .store T x (.const (.slice none 0 0))) (hk : Γ.kind T = .sl E) (hx : ard S x = some (.at r p)) (hv : ast Γ true S o = some S1)
    (h0 : S1[r]? = some x0) (hp : plA (rootA x0) = true) (hy : aget S1 r p = some (.lst true 0 [])) (hS : asetc S1 r p (.lst true (Γ.size E) []) = S2) (h : AL P false ops l S2 N) : AL P false ops (o :: l) S N := by
  subst hS
  exact al_op hg (ao_tag (ast_AO hT hv) fun K w0 Z0 a w hA => hA.tag (Γ.size E) h0 hp hy) h
theorem al_cap0 (hT : TabOk P Γ) {T E : Nat} {x : Operand} {v : AV} {S' : List AV} (hg : gchk ops S o = some true) (ho : o.op = .call { callee := .builtin .cap, args := #[x], argTypes := #[T] }) (hk : Γ.kind T = .sl E) (hx : ard S x = some v) (hn : noRoom S v = true)
    (hp : aput o.dst (.int .i64 0) S = S') (h : AL P false ops l S' N) : AL P false ops (o :: l) S N := by
  subst hp
  exact al_op hg (es_AO fun K w0 Z Sc a w e hG => by subst e; exact cap0_sound hT hG ho hk hx hn) h
theorem al_appendz (hT : TabOk P Γ) {T I E : Nat} {x y : Operand} {ki : IntKind} {z dv : AV} {n : Nat} {S' : List AV} (hg : gchk ops S o = some true) (ho : o.op = .call { callee := .builtin .append, args := #[x, y], argTypes := #[T, I] }) (hk : Γ.kind T = .sl E) (hI : Γ.kind I = .int ki) (hE : Γ.kind E ≠ .no)
    (hz : Γ.zero E = some z) (hs0 : Γ.size E ≠ 0) (hx : ard S x = some dv) (hn : noRoom S dv = true) (hy : ard S y = some (.int .i64 (n : Int))) (h0 : 0 < n)
    (hm : n ≤ 9223372036854775807) (hbnd : n * Γ.bytes E ≤ 140737488355328) (hp : aput o.dst (.lst true (Γ.size E) (List.replicate n z)) S = S') (h : AL P false ops l S' N) : AL P false ops (o :: l) S N := by
  subst hp
  exact al_op hg (es_AO fun K w0 Z Sc a w e hG => by subst e; exact appendz_sound hT hG ho hk hI hE hz hs0 hx hn hy h0 hm hbnd) h
end
end Go.Bv

/-! The set of plain rules by which the steps of a walk are reckoned. -/
namespace Go.Bv
open Go Go.RowKit
attribute [go_sem] ast qv ard aconst arefs arefss aview aviews atake atakes true_or or_true or_self and_self and_true true_and not_false_eq_true ne_eq eq_self
attribute [go_sem] aput Bool.false_eq_true if_false if_true List.getElem?_cons_succ List.getElem?_cons_zero rootableA List.set List.set_cons_succ List.set_cons_zero List.map_cons List.map_nil aun menA menAs Bool.or_false Bool.or_self beq_self_eq_true
attribute [go_sem] gchk graw List.getElem?_toArray Bool.not_true Bool.not_false
attribute [go_sem] binA unA convA intBin strBin bndA minA maxA ards List.toList_toArray aget agetN aset asetR asetN asetq asetc aclr rootA scalarA hitA hitAs List.any_nil List.any_cons List.isPrefixOf List.nil_append List.cons_append List.append_nil List.append_assoc alen alens plA plAs fitsA fieldOk List.drop_zero List.take_of_length_le Nat.le_refl List.take_zero List.take_succ_cons List.take_nil List.length_cons List.length_nil Bool.and_self Bool.and_true Bool.true_and bne_iff_ne bne_self_eq_false Nat.zero_add Nat.add_zero Int.toNat_natCast List.getElem?_map Option.map_some List.length_replicate List.length_map List.length_set List.length_append Bool.or_true Bool.true_or Int.natCast_nonneg decide_true decide_false Bool.false_and Bool.and_false
attribute [go_sem] asnap asnaps ash ashs noSh noShs aback hinA hinAs aggPath List.drop_nil aels leafA leafAs lenOf skA skAs bldChk asetAll List.zip_cons_cons List.zip_nil_right List.replicate List.all_cons List.all_nil isByte
attribute [go_sem] Nat.reduceAdd Nat.reduceLT Nat.reduceEqDiff Nat.reduceBNe Nat.reduceBEq Int.reduceBEq Int.reduceBNe Int.reduceLT Int.reduceLE Int.reduceGT Int.reduceGE Int.reduceAdd Int.reduceSub Int.reduceNeg Int.reduceEq reduceCtorEq reduceIte
theorem wrap_lit {n : Int} (h : -9223372036854775808 ≤ n) (h' : n ≤ 9223372036854775807) : IntKind.i64.wrap n = n := by rw [IntKind.wrap_i64]; omega
attribute [go_sem] wrap_lit Int.cast_ofNat_Int Int.sub_zero Int.add_zero Int.zero_add
attribute [go_sem] List.drop_succ_cons List.all_replicate ite_self Nat.reduceSub Nat.reduceMul Nat.reduceDiv Nat.reduceMod Nat.reduceLeDiff Nat.reduceGT Int.reduceMul Int.reduceDiv Int.reduceMod Int.reduceToNat Nat.sub_zero Nat.sub_self
attribute [go_sem] vroot vroots List.dropLast_cons₂ List.dropLast_singleton lendA lendAs
attribute [go_sem] noRoom ares aresL ares1 aresM resV
theorem al_cast {P : Program} {f : Bool} {ops : Array Oper} {l : List Oper} {S S' : List AV} {N : List AV → Prop} (e : S = S') (h : AL P f ops l S' N) : AL P f ops l S N := e ▸ h
end Go.Bv
