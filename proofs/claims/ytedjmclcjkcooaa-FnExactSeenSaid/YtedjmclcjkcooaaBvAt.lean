/- append of a list that is handed over, elements and all. Generic: no program. -/
import Derived.Test.YtedjmclcjkcooaaBvDt
namespace Go.Bv
open Go Go.RowKit
set_option linter.unusedSimpArgs false
set_option linter.unusedVariables false
section
variable {K : Nat → Prop} {w0 : World} {Z : Nat → Prop} {Sc L : List CV} {a : Act} {w : World} {P : Program} {Γ : Tab}
theorem append2_sound (hT : TabOk P Γ) (h : Good K w0 Z Sc L a w) {o : Oper} {T E : Nat} {x y : Operand} (ho : o.op = .call { callee := .builtin .append, args := #[x, y], argTypes := #[T, T] }) (hk : Γ.kind T = .sl E) (hE : Γ.kind E ≠ .no)
    {z : AV} (hz : Γ.zero E = some z) (hs0 : Γ.size E ≠ 0) {dv : AV} (hx : ard (ers Sc) x = some dv) {s : Nat} {xs S1 : List AV} (ht : atake (ers Sc) dv = some (.lst true s xs, S1)) (hs : (s = 0 ∧ xs = []) ∨ s = Γ.size E)
    {ev : AV} (hy : ard (ers Sc) y = some ev) (hno : ((arefs dv).any fun rp => hitA rp.1 rp.2 ev) = false) {s' : Nat} {ys S' : List AV} (hty : atake S1 ev = some (.lst true s' ys, S')) (hs2 : (s' = 0 ∧ ys = []) ∨ s' = Γ.size E)
    (hm : xs.length + ys.length ≤ 9223372036854775807) (hbnd : (xs.length + ys.length) * Γ.bytes E ≤ 140737488355328) :
    ES P K w0 Z L a w o (aput o.dst (.lst true (Γ.size E) (xs ++ ys)) S') := by
  obtain ⟨cx, rfl, vx, hrd, hnt⟩ := h.rd hx
  obtain ⟨cy, rfl, vy0, hrdy, hnty⟩ := h.rd hy
  obtain ⟨d, Sc1, e1, e2', hG1, hfl, hpl, hag, hrf⟩ := take_good cx Sc L h hrd.refOk hrd.wf hrd.ok hrd.fp _ S1 ht
  have hry : RefOk Sc1 cy := hrf cy hrdy.refOk fun rp hrp => by
    have hx : ∀ x, ¬ (x ∈ arefs (er cx) ∧ hitA x.1 x.2 (er cy) = true) := by simpa using hno
    have := hx rp
    rw [refs_er, hit_er] at this
    cases hh : hit rp.1 rp.2 cy with
    | false => rfl
    | true => exact absurd ⟨hrp, hh⟩ this
  rw [← e2'] at hty
  obtain ⟨e, Sc', f1, e2, hG2, hfl2, hpl2, hag2, _⟩ := take_good cy Sc1 (d :: L) hG1 hry hrdy.wf hrdy.ok hrdy.fp _ S' hty
  obtain ⟨A, c, xsC, rfl, rfl⟩ := er_lst e1
  obtain ⟨B, cb, ysC, rfl, rfl⟩ := er_lst f1
  have hvd : a.eval x = .slice A xsC.length c := by rw [← vx, ← val_same hfl hpl hag hnt]; rfl
  have vy : a.eval y = .slice B ysC.length cb := by rw [← vy0, ← val_same hfl2 hpl2 hag2 hnty]; rfl
  have hG : Good K w0 Z Sc' (.lst true s A c xsC :: .lst true s' B cb ysC :: L) a w := by
    refine hG2.beside ?_ (Fits.of_perm ?_) ?_
    · have := ((okL_append _ _).1 hG2.ok).2
      rw [okL_iff] at this ⊢
      intro z hz; exact this z (by simp at hz ⊢; rcases hz with h | h | h <;> simp [h])
    · simp only [fps]
      rw [← List.append_assoc, ← List.append_assoc]
      exact List.Perm.append_right _ List.perm_append_comm
    · intro z hz; exact hG2.nr z (by simp at hz ⊢; rcases hz with h | h | h <;> simp [h])
  have hdoky : Ok w Z (.lst true s' B cb ysC) := ((okL_append _ _).1 hG.ok).2.2.1
  have hdoky' := hdoky
  simp only [Ok] at hdoky
  obtain ⟨⟨_, y2, _⟩, y4, _, p3⟩ := hdoky
  have p1 : PlL ysC := by simpa only [Pl] using hpl2
  have p4 : ysC.length = 0 ∨ ∃ b, B = some b ∧ CellsAt w b (flats ysC) := by
    rcases y2 with h2 | ⟨b, q1, _, q2, _⟩
    · exact .inl h2
    · exact .inr ⟨b, q1, q2⟩
  obtain ⟨hz1, i, v, h1, h2, h3, h4⟩ := hT.zero E z hz
  obtain ⟨i', h1', hsz, hby⟩ := hT.size E hE
  rw [h1] at h1'; cases h1'
  have hu := hT.sl T E hk
  have hdok : Ok w Z (.lst true s A c xsC) := ((okL_append _ _).1 hG.ok).2.1
  have hdok' := hdok
  simp only [Ok] at hdok
  obtain ⟨⟨k1, k2, k3⟩, k4, _, k6⟩ := hdok
  have hplx : PlL xsC := by simpa only [Pl] using hpl
  have hyl : ∀ u ∈ ysC, (flat u).length = Γ.size E := fun u hu => by
    rcases hs2 with ⟨_, hs2⟩ | hs2
    · have : ysC = [] := by cases ysC <;> simp [ers] at hs2 ⊢
      subst this; simp at hu
    · rw [y4 u hu, hs2]
  have hxl : ∀ u ∈ xsC, (flat u).length = Γ.size E := fun u hu => by
    rcases hs with ⟨_, hs⟩ | hs
    · have : xsC = [] := by cases xsC <;> simp [ers] at hs ⊢
      subst this; simp at hu
    · rw [k4 u hu, hs]
  have hlens : ∀ us : List CV, (∀ u ∈ us, (flat u).length = Γ.size E) → (flats us).length = us.length * Γ.size E := by
    intro us
    induction us with
    | nil => intro _; simp [flats]
    | cons u us ih => intro hu; simp only [flats, List.length_append, List.length_cons, hu u (by simp), ih (fun q hq => hu q (by simp [hq]))]; rw [Nat.add_mul]; omega
  have hxlen := hlens xsC hxl
  have hylen := hlens ysC hyl
  have hrunof : ∀ v' w', (Builtin.append_ #[T, T] o.type #[.slice A xsC.length c, .slice B ysC.length cb]).run P w = .ok v' w' → (execOp a.eval o).run P w = .ok (.value v') w' := by
    intro v' w' hr
    unfold execOp
    simp only [ho, resolve, invoke, builtin, Sem.run_bind, Sem.run_pure, Result.andThen_ok, List.map_toArray, List.map_cons, List.map_nil, hvd, vy, hr]
  have hersl : (ers xsC).length = xsC.length := by simp [ers_eq]
  have hersl2 : (ers ysC).length = ysC.length := by simp [ers_eq]
  rw [hersl, hersl2] at hm hbnd
  have hnr : ∀ (A' : Option Addr) (c' : Nat), NR (.lst true (Γ.size E) A' c' (xsC ++ ysC)) := fun A' c' => by
    simp only [NR, Pl]
    rw [plL_iff] at hplx p1 ⊢
    intro u hu
    rcases List.mem_append.1 hu with hu | hu
    · exact hplx u hu
    · exact p1 u hu
  have hall : ∀ u ∈ xsC ++ ysC, (flat u).length = Γ.size E := fun u hu => by
    rcases List.mem_append.1 hu with hu | hu
    · exact hxl u hu
    · exact hyl u hu
  have hres : ∀ (A' : Option Addr) (c' : Nat), er (.lst true (Γ.size E) A' c' (xsC ++ ysC)) = .lst true (Γ.size E) (ers xsC ++ ers ysC) := fun A' c' => by simp [er, ers_append]
  -- s is the size, or there is no room
  have hsc : c ≠ 0 → s = Γ.size E := fun hc => by
    rcases hs with ⟨hs, _⟩ | hs
    · exact absurd hs (k3 rfl hc).1
    · exact hs
  by_cases hroom : xsC.length + ysC.length ≤ c
  · by_cases hm0 : ysC.length = 0
    · -- nothing comes
      have hy0 : ysC = [] := List.eq_nil_of_length_eq_zero hm0
      subst hy0
      have hrun := hrunof (.slice A (xsC.length + 0) c) w (run_app_room hu h1 (news := []) run_first_none (by simpa using hroom) (by cases A <;> simp [storeCells]))
      have hG2 : Good K w0 Z Sc' (.lst true (Γ.size E) A c xsC :: L) a w := by
        refine hG.beside ?_ (Fits.of_sublist ?_) ?_
        · simp only [OkL, Ok]
          have hL := ((okL_append _ _).1 hG.ok).2.2.2
          exact ⟨⟨⟨k1, k2, fun q hc => by have := k3 q hc; rw [hsc hc] at this; exact this⟩, hxl, by simp, k6⟩, hL⟩
        · simp only [fps, fp]
          exact List.Sublist.append (List.Sublist.refl _) (List.sublist_append_right _ _)
        · intro u hu
          rcases List.mem_cons.1 hu with rfl | hu
          · simpa using hnr A c
          · exact hG.nr u (by simp [hu])
      refine es_value hrun (Sc' := cput o.dst (.lst true (Γ.size E) A c xsC) Sc') ?_ ?_
      · rw [er_cput, e2]; simp [er, ers]
      · have := hG2.put o.dst
        simpa [val, val1, flat] using this
    · have hc0 : c ≠ 0 := by omega
      obtain ⟨hsn, ad, cur, E', rfl, hsp, hb, hcm, hrm⟩ := k3 rfl hc0
      obtain ⟨b, hB, hcb⟩ := p4.resolve_left hm0
      subst hB
      have hse := hsc hc0
      subst hse
      have hf : (Builtin.firstCells i.size ysC.length (.slice (some b) ysC.length cb)).run P w = .ok (flats ysC).toArray w :=
        run_firstCells_some w i.size ysC.length b ysC.length cb (flats ysC) (by rw [hylen, hsz]) hcb
      have hfit : ad.off + xsC.length * Γ.size E + (flats ysC).length ≤ cur.size := by
        rw [hylen, Nat.add_assoc, ← Nat.add_mul]
        exact Nat.le_trans (Nat.add_le_add_left (Nat.mul_le_mul_right _ hroom) _) hrm
      have had : ad.add (xsC.length * i.size) = ⟨ad.block, ad.off + xsC.length * Γ.size E, none⟩ := by rw [add_eq hsp, hsz]
      obtain ⟨hst, hnew⟩ := stored_setRow (w := w) (vs := flats ysC) hb hfit
      have hone : ∀ u ∈ flats ysC, u.oneCell' = true := fun u hu => Pl.one (.agg ysC) (by simpa only [Pl] using p1) u (by simpa [flat] using hu)
      have hcell := run_storeCells_at P ad.block (ad.off + xsC.length * Γ.size E) E' (flats ysC) 0 cur w hb (by simpa using hfit) hone
      simp only [Nat.add_zero] at hcell
      obtain ⟨W, hW⟩ : ∃ W, W = w.setRow ad.block (cur.toList.take (ad.off + xsC.length * Γ.size E) ++ flats ysC ++ cur.toList.drop (ad.off + xsC.length * Γ.size E + (flats ysC).length)).toArray := ⟨_, rfl⟩
      rw [← hW] at hst hnew hcell
      have hrun := hrunof _ W (run_app_room hu h1 (news := flats ysC) hf hroom (by simp only; rw [had]; exact hcell))
      have hbfp : ad.block ∈ fp (.lst true (Γ.size E) (some ad) c xsC) := by simp [fp, hc0]
      have hndd : (fp (.lst true (Γ.size E) (some ad) c xsC)).Nodup := by
        have := hG.nodup
        simp only [fps_append, fps] at this
        exact (List.nodup_append.1 (List.nodup_append.1 this).2.1).1
      have hnx : ∀ k ∈ fps xsC, k ≠ ad.block := fun k hk e => by
        simp only [fp, hc0, or_false, Bool.true_eq_false, if_false, Option.map_some, Option.toList_some, List.singleton_append, List.nodup_cons] at hndd
        exact hndd.1 (e ▸ hk)
      have hnZ : ∀ k, Z k → k ≠ ad.block := fun k hk e => hG.apart ad.block (by simp [fps_append, fps, hbfp]) (e ▸ hk)
      have hny : ∀ k ∈ fps ysC, k ≠ ad.block := fun k hk e => by
        have := hG.nodup
        simp only [fps_append, fps] at this
        refine (List.nodup_append.1 (List.nodup_append.1 this).2.1).2.2 ad.block hbfp k ?_ e.symm
        simp [fp, hk]
      have hGa : Good K w0 Z Sc' (.agg [.lst true (Γ.size E) (some ad) c xsC, .lst true s' (some b) cb ysC] :: L) a w := by
        refine hG.beside ?_ (Fits.of_sublist ?_) ?_
        · have hL := ((okL_append _ _).1 hG.ok).2.2.2
          simp only [OkL]
          exact ⟨by rw [Ok]; simp only [OkL]; exact ⟨hdok', hdoky', trivial⟩, hL⟩
        · simp [fps, fp]
        · intro u hu
          rcases List.mem_cons.1 hu with rfl | hu
          · simp only [NR, Pl, PlL]; exact ⟨hplx, p1, trivial⟩
          · exact hG.nr u (by simp [hu])
      have hbfp2 : ad.block ∈ fp (.agg [.lst true (Γ.size E) (some ad) c xsC, .lst true s' (some b) cb ysC]) := by simp [fp, fps, hc0]
      have hG2 := hGa.inplace (y' := .lst true (Γ.size E) (some ad) c (xsC ++ ysC)) (w' := W) hbfp2 (fun k hk => hst.other k hk) (by rw [hW]; exact size_setRow _ _ _) (by rw [hW]; rfl) (by rw [hW]; rfl) (by rw [hW]; rfl) ?_ ?_ (hnr _ _)
      · refine es_value hrun (Sc' := cput o.dst (.lst true (Γ.size E) (some ad) c (xsC ++ ysC)) Sc') ?_ ?_
        · rw [er_cput, e2, hres]
        · have := hG2.put o.dst
          simpa [val, val1, flat] using this
      · simp only [Ok]
        refine ⟨⟨by simpa using hroom, .inr ⟨ad, rfl, hsp, ?_, by simp⟩, fun _ _ => ?_⟩, hall, by simp, ?_⟩
        · rw [flats_append, cellsAt_append hsp]
          refine ⟨?_, ?_⟩
          · by_cases hn0 : xsC.length = 0
            · have : xsC = [] := List.eq_nil_of_length_eq_zero hn0
              subst this
              intro j u hj; simp [flats] at hj
            · obtain ⟨ad', q1, q2, q3, _⟩ := k2.resolve_left hn0
              simp only [Option.some.injEq] at q1
              subst q1
              exact hst.cellsAt hsp q3 fun _ => .inl (by rw [hxlen]; exact Nat.le_refl _)
          · rw [hxlen, add_eq hsp]; exact hnew
        · obtain ⟨cur', c1, c2⟩ := hst.hit cur E' hb
          exact ⟨hs0, ad, cur', E', rfl, hsp, c1, hcm, by rw [c2]; exact hrm⟩
        · rw [okL_append]
          exact ⟨OkL.congr (fun _ h => h) (fun k hk => hst.other k (hnZ k hk)) _ (fun k hk => hst.other k (hnx k hk)) k6, OkL.congr (fun _ h => h) (fun k hk => hst.other k (hnZ k hk)) _ (fun k hk => hst.other k (hny k hk)) p3⟩
      · refine Fits.of_sublist ?_
        simp only [fp, fps, fps_append, hc0, or_false, Bool.true_eq_false, if_false, List.append_nil, List.append_assoc]
        exact List.Sublist.append (List.Sublist.refl _) (List.Sublist.append (List.Sublist.refl _) (List.sublist_append_right _ _))
  · -- a new block
    have hm0 : ysC.length ≠ 0 := by omega
    obtain ⟨b, hB, hcb⟩ := p4.resolve_left hm0
    subst hB
    have hgc := grownCap_ge w (xsC.length + ysC.length) c E
    have hgm := grownCap_le_maxLen w (xsC.length + ysC.length) c E (by unfold maxLen; omega)
    obtain ⟨g, hg⟩ : ∃ g, g = grownCap w (xsC.length + ysC.length) c E := ⟨_, rfl⟩
    have hrun : (Builtin.append_ #[T, T] o.type #[.slice A xsC.length c, .slice (some b) ysC.length cb]).run P w =
        .ok (.slice (some ⟨w.heap.size, 0, none⟩) (xsC.length + ysC.length) g) (w.drew.alloc (.cells ((flats xsC).toArray ++ (flats ysC).toArray ++ Builtin.zeroCells v.cells (g - (xsC.length + ysC.length))) E)) := by
      rw [hg]
      have hfits := growslice_fits (need := xsC.length + ysC.length) (old := c) (bytes := i.bytes) (by omega) (by rw [hby]; exact hbnd)
      cases A with
      | some ad =>
        have holds : ∀ j u, (flats xsC)[j]? = some u → w.cell? (ad.add j) = some u := by
          rcases k2 with hn0 | ⟨ad', q1, q2, q3, _⟩
          · have : xsC = [] := List.eq_nil_of_length_eq_zero hn0
            subst this
            intro j u hj; simp [flats] at hj
          · simp only [Option.some.injEq] at q1
            subst q1
            exact q3
        exact run_append_grow (P := P) w T o.type E i v hu h1 h2 ad xsC.length c (flats xsC) (by rw [hxlen, hsz]) holds b ysC.length cb (flats ysC) (by rw [hylen, hsz]) hcb (by omega) (by omega) hfits
      | none =>
        have hc0 : c = 0 := by
          by_cases hc : c = 0
          · exact hc
          · obtain ⟨_, ad, _, _, q, _⟩ := k3 rfl hc; cases q
        have hn0 : xsC.length = 0 := by omega
        have : xsC = [] := List.eq_nil_of_length_eq_zero hn0
        subst this; subst hc0
        have hr := run_append_nil (P := P) w T o.type E i v hu h1 h2 b ysC.length cb (flats ysC) (by rw [hylen, hsz]) hcb (by omega) (by have := hm; simp only [List.length_nil, Nat.zero_add] at this; omega) (by
          have := hbnd; rw [hby]; simp only [List.length_nil, Nat.zero_add] at this; omega)
        simpa [flats] using hr
    have hrun' := hrunof _ _ hrun
    rw [← hg] at hgc hgm
    have hGd : Good K w0 Z Sc' ([.lst true s A c xsC, .lst true s' (some b) cb ysC] ++ L) a w.drew := hG.world (fun _ _ => rfl) (Nat.le_refl _) rfl rfl rfl
    have hG2 := hGd.block (M := [.lst true s A c xsC, .lst true s' (some b) cb ysC]) (L := L) (c := .lst true (Γ.size E) (some ⟨w.heap.size, 0, none⟩) g (xsC ++ ysC)) (o := .cells ((flats xsC).toArray ++ (flats ysC).toArray ++ Builtin.zeroCells v.cells (g - (xsC.length + ysC.length))) E) ?_ ?_ (hnr _ _)
    · refine es_value hrun' (Sc' := cput o.dst (.lst true (Γ.size E) (some ⟨w.heap.size, 0, none⟩) g (xsC ++ ysC)) Sc') ?_ ?_
      · rw [er_cput, e2, hres]
      · have := hG2.put o.dst
        simpa [val, val1, flat] using this
    · have hg0 : g ≠ 0 := by omega
      simp only [fp, fps_append, fps, List.append_nil, hg0, or_false, Bool.true_eq_false, if_false, Option.map_some, Option.toList_some, List.singleton_append]
      refine Fits.of_sublist ?_
      refine List.Sublist.cons_cons _ ?_
      exact List.Sublist.append (List.sublist_append_right _ _) (List.sublist_append_right _ _)
    · have hold : ∀ k, k < w.heap.size → (w.drew.alloc (.cells ((flats xsC).toArray ++ (flats ysC).toArray ++ Builtin.zeroCells v.cells (g - (xsC.length + ysC.length))) E)).heap[k]? = w.heap[k]? := fun k hk => heap_alloc_old w.drew _ k hk
      have hnewb := heap_alloc_new w.drew (.cells ((flats xsC).toArray ++ (flats ysC).toArray ++ Builtin.zeroCells v.cells (g - (xsC.length + ysC.length))) E)
      simp only [Ok]
      refine ⟨⟨by simpa using hgc, .inr ⟨_, rfl, rfl, ?_, by simp⟩, fun _ _ => ⟨hs0, _, _, _, rfl, rfl, hnewb, hgm, ?_⟩⟩, hall, by simp, ?_⟩
      · rw [cellsAt_iff rfl]
        intro j u hj
        have hj' := (List.getElem?_eq_some_iff.1 hj).1
        have hc : (w.drew.alloc (.cells ((flats xsC).toArray ++ (flats ysC).toArray ++ Builtin.zeroCells v.cells (g - (xsC.length + ysC.length))) E)).cell? ⟨w.heap.size, 0 + j, none⟩ =
            ((flats xsC).toArray ++ (flats ysC).toArray ++ Builtin.zeroCells v.cells (g - (xsC.length + ysC.length)))[0 + j]? := by
          simp only [World.cell?]
          have : (w.drew.alloc (.cells ((flats xsC).toArray ++ (flats ysC).toArray ++ Builtin.zeroCells v.cells (g - (xsC.length + ysC.length))) E)).heap[w.heap.size]? = _ := hnewb
          rw [this]
          simp
        rw [hc, Nat.zero_add]
        rw [flats_append] at hj hj'
        rw [Array.getElem?_append_left (by simpa using hj')]
        simpa using hj
      · simp only [Array.size_append, List.size_toArray, size_zeroCells, h4, hsz, hxlen, hylen, ← Nat.add_mul, Nat.zero_add]
        exact Nat.mul_le_mul_right _ (by omega)
      · rw [okL_append]
        have hlt : ∀ k, (k ∈ fps xsC ∨ Z k) → k < w.heap.size := fun k hk => hG.lt k (hk.imp (fun hk => by simp [fps_append, fps, fp, hk]) id)
        exact ⟨OkL.congr (fun _ h => h) (fun k hk => hold k (hlt k (.inr hk))) _ (fun k hk => hold k (hlt k (.inl hk))) k6, OkL.congr (fun _ h => h) (fun k hk => hold k (hlt k (.inr hk))) _ (fun k hk => hold k (hG.lt k (.inl (by simp [fps_append, fps, fp, hk])))) p3⟩

variable {S : List AV} {ops : Array Oper} {l : List Oper} {o : Oper} {N : List AV → Prop}
theorem al_append2 (hT : TabOk P Γ) {T E : Nat} {x y : Operand} {z dv ev : AV} {s s' : Nat} {xs ys S1 S' S'' : List AV} (hg : gchk ops S o = some true) (ho : o.op = .call { callee := .builtin .append, args := #[x, y], argTypes := #[T, T] }) (hk : Γ.kind T = .sl E) (hE : Γ.kind E ≠ .no)
    (hz : Γ.zero E = some z) (hs0 : Γ.size E ≠ 0) (hx : ard S x = some dv) (ht : atake S dv = some (.lst true s xs, S1)) (hs : (s = 0 ∧ xs = []) ∨ s = Γ.size E)
    (hy : ard S y = some ev) (hno : ((arefs dv).any fun rp => hitA rp.1 rp.2 ev) = false) (hty : atake S1 ev = some (.lst true s' ys, S')) (hs2 : (s' = 0 ∧ ys = []) ∨ s' = Γ.size E)
    (hm : xs.length + ys.length ≤ 9223372036854775807) (hbnd : (xs.length + ys.length) * Γ.bytes E ≤ 140737488355328) (hp : aput o.dst (.lst true (Γ.size E) (xs ++ ys)) S' = S'') (h : AL P false ops l S'' N) : AL P false ops (o :: l) S N := by
  subst hp
  exact al_op hg (es_AO fun K w0 Z Sc a w e hG => by subst e; exact append2_sound hT hG ho hk hE hz hs0 hx ht hs hy hno hty hs2 hm hbnd) h
theorem as_append2 (hT : TabOk P Γ) {T E : Nat} {x y : Operand} {z dv ev : AV} {s s' : Nat} {xs ys S1 S' S'' : List AV} (hg : gchk ops S o = some true) (ho : o.op = .call { callee := .builtin .append, args := #[x, y], argTypes := #[T, T] }) (hk : Γ.kind T = .sl E) (hE : Γ.kind E ≠ .no)
    (hz : Γ.zero E = some z) (hs0 : Γ.size E ≠ 0) (hx : ard S x = some dv) (ht : atake S dv = some (.lst true s xs, S1)) (hs : (s = 0 ∧ xs = []) ∨ s = Γ.size E)
    (hy : ard S y = some ev) (hno : ((arefs dv).any fun rp => hitA rp.1 rp.2 ev) = false) (hty : atake S1 ev = some (.lst true s' ys, S')) (hs2 : (s' = 0 ∧ ys = []) ∨ s' = Γ.size E)
    (hm : xs.length + ys.length ≤ 9223372036854775807) (hbnd : (xs.length + ys.length) * Γ.bytes E ≤ 140737488355328) (hp : aput o.dst (.lst true (Γ.size E) (xs ++ ys)) S' = S'') : AS P ops o S S'' := by
  subst hp
  exact .inl ⟨hg, es_AO fun K w0 Z Sc a w e hG => by subst e; exact append2_sound hT hG ho hk hE hz hs0 hx ht hs hy hno hty hs2 hm hbnd⟩
end
theorem hitA_cond {r : Nat} {p : List Nat} {b : Bool} {x y : AV} : hitA r p (bif b then x else y) = bif b then hitA r p x else hitA r p y := by cases b <;> rfl
theorem menA_cond {d : Nat} {b : Bool} {x y : AV} : menA d (bif b then x else y) = bif b then menA d x else menA d y := by cases b <;> rfl
theorem cond_selfA {α : Type} {b : Bool} {x : α} : (bif b then x else x) = x := by cases b <;> rfl
attribute [go_sem] hitA_cond menA_cond cond_selfA
theorem take_mapA {α : Type} {f : α → AV} {xs : List α} : List.take xs.length (List.map f xs) = List.map f xs := List.take_of_length_le (by simp)
attribute [go_sem] take_mapA
end Go.Bv
