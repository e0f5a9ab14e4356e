/- Struct and slice literals. Generic: no program. -/
import Derived.Test.YtjmodjanaeoiiaaBvAp
import Derived.Laws.Tables
import Derived.Great.BuildSlice
namespace Go.Bv
open Go Go.RowKit
set_option linter.unusedSimpArgs false
set_option linter.unusedVariables false

/-- All these are set. -/
def setAll : List CV → List (Nat × CV) → List CV
  | xs, [] => xs
  | xs, (i, c) :: ps => setAll (xs.set i c) ps
def asetAll : List AV → List (Nat × AV) → List AV
  | xs, [] => xs
  | xs, (i, c) :: ps => asetAll (xs.set i c) ps
theorem ers_set (xs : List CV) (i : Nat) (c : CV) : ers (xs.set i c) = (ers xs).set i (er c) := by simp [ers_eq, List.map_set]
theorem er_setAll : ∀ (ps : List (Nat × CV)) (xs : List CV), ers (setAll xs ps) = asetAll (ers xs) (ps.map fun p => (p.1, er p.2))
  | [], _ => rfl
  | (i, c) :: ps, xs => by simp only [setAll, List.map_cons, asetAll]; rw [er_setAll ps, ers_set]
theorem flats_len (xs : List CV) : (flats xs).length = (xs.map fun x => (flat x).length).sum := by
  induction xs <;> simp [flats, *]
theorem fps_set (xs : List CV) (i : Nat) (c : CV) : Fits (fps (xs.set i c)) (fp c ++ fps xs) := by
  cases hx : xs[i]? with
  | none =>
    rw [List.set_eq_of_length_le (by simpa using hx)]
    exact Fits.of_sublist (List.sublist_append_right _ _)
  | some x =>
    rw [set_at c hx]
    conv => rhs; rw [cut_at hx]
    simp only [fps_append, fps]
    refine Fits.trans (b := fp c ++ (fps (xs.take i) ++ fps (xs.drop (i + 1)))) (Fits.of_perm ?_) (Fits.of_sublist ?_)
    · rw [← List.append_assoc, ← List.append_assoc]
      exact List.Perm.append_right _ List.perm_append_comm
    · exact List.Sublist.append_left (List.Sublist.append_left (List.sublist_append_right _ _) _) _
theorem fps_setAll : ∀ (ps : List (Nat × CV)) (xs : List CV), Fits (fps (setAll xs ps)) (fps (ps.map (·.2)) ++ fps xs)
  | [], xs => by simpa [setAll, fps] using Fits.refl _
  | (i, c) :: ps, xs => by
    simp only [setAll, List.map_cons, fps]
    refine (fps_setAll ps (xs.set i c)).trans ?_
    have h1 := fps_set xs i c
    refine Fits.trans (b := fps (ps.map (·.2)) ++ (fp c ++ fps xs)) ⟨fun hnd => ?_, fun b hb => ?_⟩ (Fits.of_perm ?_)
    · rw [List.nodup_append] at hnd ⊢
      exact ⟨hnd.1, h1.nodup hnd.2.1, fun u hu v hv => hnd.2.2 u hu v (h1.sub v hv)⟩
    · rcases List.mem_append.1 hb with hb | hb
      · exact List.mem_append.2 (.inl hb)
      · exact List.mem_append.2 (.inr (h1.sub b hb))
    · rw [← List.append_assoc]
      exact List.Perm.append_right _ List.perm_append_comm
theorem mem_setAll {u : CV} : ∀ (ps : List (Nat × CV)) (xs : List CV), u ∈ setAll xs ps → u ∈ xs ∨ ∃ p ∈ ps, p.2 = u
  | [], xs, h => .inl h
  | (i, c) :: ps, xs, h => by
    rcases mem_setAll ps (xs.set i c) h with h | ⟨p, hp, e⟩
    · rcases List.mem_or_eq_of_mem_set h with h | rfl
      · exact .inl h
      · exact .inr ⟨(i, u), by simp, rfl⟩
    · exact .inr ⟨p, by simp [hp], e⟩
theorem setAll_len : ∀ (ps : List (Nat × CV)) (xs : List CV), (setAll xs ps).length = xs.length
  | [], _ => rfl
  | (i, c) :: ps, xs => by simp only [setAll]; rw [setAll_len ps, List.length_set]

theorem fold_seg : ∀ (vs : List Value) (k off : Nat) (cells : Array Value), off + k + vs.length ≤ cells.size →
    ((vs.zipIdx k).foldl (fun (cs : Array Value) (x : Value × Nat) => cs.setIfInBounds (off + x.2) x.1) cells) = (cells.toList.take (off + k) ++ vs ++ cells.toList.drop (off + k + vs.length)).toArray
  | [], k, off, cells, h => by simp
  | v :: vs, k, off, cells, h => by
    simp only [List.zipIdx_cons, List.foldl_cons]
    rw [fold_seg vs (k + 1) off _ (by simp at h ⊢; omega)]
    congr 1
    simp only [List.length_cons] at h
    have hlt : off + k < cells.toList.length := by simp; omega
    rw [Array.toList_setIfInBounds]
    have e1 : (cells.toList.set (off + k) v).take (off + (k + 1)) = cells.toList.take (off + k) ++ [v] := by
      rw [List.set_eq_take_append_cons_drop, if_pos hlt, show off + (k + 1) = off + k + 1 by omega, List.take_append]
      simp only [List.length_take, Nat.min_eq_left (Nat.le_of_lt hlt)]
      rw [show off + k + 1 - (off + k) = 1 by omega, List.take_of_length_le (by simp; omega)]
      simp
    have e2 : (cells.toList.set (off + k) v).drop (off + (k + 1) + vs.length) = cells.toList.drop (off + k + (v :: vs).length) := by
      rw [List.drop_set_of_lt (by omega)]
      congr 1
      simp; omega
    rw [e1, e2]
    simp

/-- The parts fall where they should. -/
theorem fill_flats {place : Nat → Option (Nat × Nat)} (ls : List Nat) (hpl : ∀ i n, ls[i]? = some n → place i = some ((ls.take i).sum, n)) :
    ∀ (ps : List (Nat × CV)) (xs : List CV), (xs.map fun x => (flat x).length) = ls → (∀ p ∈ ps, Pl p.2 ∧ ls[p.1]? = some (flat p.2).length) →
      Instr.fill place (flats xs).toArray (ps.map fun p => (p.1, val p.2)) = some (flats (setAll xs ps)).toArray
  | [], xs, _, _ => by simp [Instr.fill, setAll]
  | (i, c) :: ps, xs, hl, hp => by
    obtain ⟨h1, h2⟩ := hp (i, c) (by simp)
    simp only at h1 h2
    obtain ⟨x, hx, hxl⟩ : ∃ x, xs[i]? = some x ∧ (flat x).length = (flat c).length := by
      rw [← hl, List.getElem?_map] at h2
      cases hx : xs[i]? with
      | none => simp [hx] at h2
      | some x => simp only [hx, Option.map_some, Option.some.injEq] at h2; exact ⟨x, rfl, h2⟩
    have hcut : flats xs = flats (xs.take i) ++ (flat x ++ flats (xs.drop (i + 1))) := by
      conv => lhs; rw [cut_at hx]
      rw [flats_append]; simp only [flats]
    have hoff : (ls.take i).sum = (flats (xs.take i)).length := by rw [flats_len, List.map_take, hl]
    have hsz : (flats xs).length = (flats (xs.take i)).length + ((flat c).length + (flats (xs.drop (i + 1))).length) := by rw [hcut]; simp [hxl]
    simp only [List.map_cons, Instr.fill, hpl i _ h2, cells_val h1, hoff]
    have hg : (((flat c).toArray.size ≠ (flat c).length) || decide ((flats (xs.take i)).length + (flat c).toArray.size > (flats xs).toArray.size)) = false := by
      simp; omega
    rw [if_neg (by simpa using hg)]
    have hf : ((flat c).toArray.zipIdx.foldl (fun (cs : Array Value) (x : Value × Nat) => cs.setIfInBounds ((flats (xs.take i)).length + x.2) x.1) (flats xs).toArray) = (flats (xs.set i c)).toArray := by
      rw [← Array.foldl_toList, Array.toList_zipIdx]
      rw [fold_seg (flat c) 0 _ _ (by simp; omega), flats_set hx]
      congr 1
      simp only [Nat.add_zero]
      rw [hcut, List.take_append_of_le_length (Nat.le_refl _), List.take_length]
      rw [← List.append_assoc (flats (xs.take i)) (flat x), List.drop_append]
      simp [hxl]
    have hl2 : ((xs.set i c).map fun x => (flat x).length) = ls := by
      rw [List.map_set, hl]
      apply List.ext_getElem?
      intro j
      rw [List.getElem?_set]
      split
      · rename_i e; subst e
        split
        · exact h2.symm
        · rename_i hn; rw [List.getElem?_eq_none (by omega)] at h2; cases h2
      · rfl
    have := fill_flats ls hpl ps (xs.set i c) hl2 (fun p hp' => hp p (by simp [hp']))
    simp only [setAll]
    rw [← this]
    congr 1

/-- The table of a struct's fields is in order. -/
def bldOk (Γ : Tab) (T : Nat) (fs : List Nat) (zs : List AV) : Bool :=
  zs.length == fs.length && (List.range zs.length).all fun i => match fs[i]?, zs[i]? with
    | some t, some z => Γ.kind t != .no && Γ.size t == alen z && Γ.off T i == ((zs.take i).map alen).sum
    | _, _ => false
/-- The parts are as long as what they replace. -/
def bldChk (zs : List AV) : List (Nat × AV) → Bool
  | [] => true
  | (i, v) :: ps => (match zs[i]? with | some z => alen v == alen z | none => false) && bldChk zs ps
theorem bldChk_at {zs : List AV} : ∀ {ps : List (Nat × AV)}, bldChk zs ps = true → ∀ p ∈ ps, ∃ z, zs[p.1]? = some z ∧ alen p.2 = alen z
  | (i, v) :: ps, h, p, hp => by
    simp only [bldChk, Bool.and_eq_true] at h
    rcases List.mem_cons.1 hp with rfl | hp
    · cases hz : zs[i]? with
      | none => simp [hz] at h
      | some z => simp only [hz, beq_iff_eq] at h; exact ⟨z, rfl, h.1⟩
    · exact bldChk_at h.2 p hp

section
variable {K : Nat → Prop} {w0 : World} {Z : Nat → Prop} {Sc L : List CV} {a : Act} {w : World} {P : Program} {Γ : Tab}

theorem places_some : ∀ (fs : List Field), (∀ f ∈ fs, ∃ i, P.info? f.type = some i ∧ i.size = Γ.size f.type) → fs.mapM (fun f => (P.info? f.type).map fun i => (f.offset, i.size)) = some (fs.map fun f => (f.offset, Γ.size f.type))
  | [], _ => by simp
  | f :: fs, h => by
    obtain ⟨i, h1, h2⟩ := h f (by simp)
    simp [List.mapM_cons, h1, h2, places_some fs (fun g hg => h g (by simp [hg]))]

/-- What the operands of a literal are, taken. -/
theorem parts_good (h : Good K w0 Z Sc L a w) {xs : List Operand} {vs : List AV} (hvs : ards (ers Sc) xs = some vs) {vs' S' : List AV} (ht : atakes (ers Sc) vs = some (vs', S')) :
    ∃ ys Sc', ers ys = vs' ∧ ers Sc' = S' ∧ Good K w0 Z Sc' (ys ++ L) a w ∧ PlL ys ∧ ys.map val = xs.map a.eval := by
  obtain ⟨cs, rfl, h2, h3⟩ := ards_sound h _ _ hvs
  have hfp : fps cs = [] := by
    clear hvs ht h2
    induction cs with
    | nil => rfl
    | cons c cs ih => simp [fps, (h3 c (by simp)).1.fp, ih (fun c hc => h3 c (by simp [hc]))]
  have key : ∀ (cs : List CV) (Sc : List CV) (L : List CV), Good K w0 Z Sc L a w → RefOkL Sc cs → WfL cs → OkL w Z cs → fps cs = [] → (∀ c ∈ cs, ∀ xs, c ≠ .tup xs) → ∀ vs' S', atakes (ers Sc) (ers cs) = some (vs', S') →
      ∃ ys Sc', ers ys = vs' ∧ ers Sc' = S' ∧ Good K w0 Z Sc' (ys ++ L) a w ∧ PlL ys ∧ ys.map val = cs.map val := by
    intro cs
    induction cs with
    | nil =>
      intro Sc L h _ _ _ _ _ vs' S' ht
      simp only [ers, atakes, Option.some.injEq, Prod.mk.injEq] at ht
      obtain ⟨rfl, rfl⟩ := ht
      exact ⟨[], Sc, rfl, rfl, h, by simp [PlL], rfl⟩
    | cons x xs ih =>
      intro Sc L h hr hw hk hf hnt vs' S' ht
      simp only [RefOkL] at hr
      simp only [WfL] at hw
      simp only [OkL] at hk
      simp only [fps, List.append_eq_nil_iff] at hf
      simp only [ers, atakes] at ht
      split at ht
      · cases ht
      rename_i hno
      have hno' : ∀ rp ∈ refs x, hits rp.1 rp.2 xs = false := by
        intro rp hrp
        simp only [refs_er, List.any_eq_true, not_exists, not_and, hits_er] at hno
        simpa using hno rp hrp
      cases htx : atake (ers Sc) (er x) with
      | none => simp [htx] at ht
      | some yS =>
        obtain ⟨y', S1⟩ := yS
        simp only [htx] at ht
        obtain ⟨y, Sc1, e1, e2, hG, hfl, hpl, hag, hrf⟩ := take_good x Sc L h hr.1 hw.1 hk.1 hf.1 y' S1 htx
        have hr2 : RefOkL Sc1 xs := by
          rw [refOkL_iff] at hr ⊢
          intro u hu
          refine hrf u (hr.2 u hu) fun rp hrp => ?_
          exact hits_mem hu (hno' rp hrp)
        rw [← e2] at ht
        cases hts : atakes (ers Sc1) (ers xs) with
        | none => simp [hts] at ht
        | some ysS =>
          obtain ⟨ys', S2⟩ := ysS
          simp only [hts, Option.some.injEq, Prod.mk.injEq] at ht
          obtain ⟨rfl, rfl⟩ := ht
          obtain ⟨ys, Sc2, f1, f2, hG2, hpl2, hv2⟩ := ih Sc1 (y :: L) hG hr2 hw.2 hk.2 hf.2 (fun c hc => hnt c (by simp [hc])) _ _ hts
          refine ⟨y :: ys, Sc2, by simp [ers, e1, f1], f2, ?_, by simp [PlL, hpl, hpl2], by simp [hv2, val_same hfl hpl hag (hnt x (by simp))]⟩
          refine hG2.beside ?_ ?_ ?_
          · have := ((okL_append _ _).1 hG2.ok).2
            rw [okL_append] at this
            simp only [OkL] at this
            simp only [List.cons_append, OkL, okL_append]
            exact ⟨this.2.1, this.1, this.2.2⟩
          · simp only [List.cons_append, fps, fps_append]
            refine Fits.of_perm ?_
            rw [← List.append_assoc, ← List.append_assoc]
            exact List.Perm.append_right _ List.perm_append_comm
          · intro z hz
            refine hG2.nr z ?_
            simp only [List.cons_append, List.mem_cons, List.mem_append] at hz ⊢
            rcases hz with hz | hz | hz
            · exact .inr (.inl hz)
            · exact .inl hz
            · exact .inr (.inr hz)
  obtain ⟨ys, Sc', f1, f2, hG, hpl, hv⟩ := key cs Sc L h ((refOkL_iff _).2 fun c hc => (h3 c hc).1.refOk) ((wfL_iff _).2 fun c hc => (h3 c hc).1.wf) ((okL_iff _).2 fun c hc => (h3 c hc).1.ok) hfp (fun c hc => (h3 c hc).2) _ _ ht
  exact ⟨ys, Sc', f1, f2, hG, hpl, by rw [hv, h2]⟩

theorem zip_parts (ps : List (Nat × Operand)) (ys : List CV) (h : ys.map val = (ps.map (·.2)).map a.eval) :
    (((ps.map (·.1)).zip ys).map fun p => (p.1, val p.2)) = ps.map fun p => (p.1, a.eval p.2) := by
  induction ps generalizing ys with
  | nil => simp
  | cons p ps ih =>
    cases ys with
    | nil => simp at h
    | cons y ys =>
      simp only [List.map_cons, List.cons.injEq] at h
      simp [h.1, ih ys h.2]
theorem zip_snd (is : List Nat) (ys : List CV) : (((is.zip ys).map (·.2))).Sublist ys := by
  induction is generalizing ys with
  | nil => simp
  | cons i is ih =>
    cases ys with
    | nil => simp
    | cons y ys => simpa using ih ys
theorem zip_er (is : List Nat) (ys : List CV) : ((is.zip ys).map fun p => (p.1, er p.2)) = is.zip (ers ys) := by
  induction is generalizing ys with
  | nil => simp
  | cons i is ih =>
    cases ys with
    | nil => simp [ers]
    | cons y ys => simp [ers, ih]
theorem fps_sublist {xs ys : List CV} (h : xs.Sublist ys) : (fps xs).Sublist (fps ys) := by
  induction h with
  | slnil => simp
  | cons _ _ ih => simp only [fps]; exact ih.trans (List.sublist_append_right _ _)
  | cons_cons _ _ ih => simp only [fps]; exact List.Sublist.append_left ih _

/-- What a literal's parts come to, set into zeros. -/
theorem setAll_good {zs : List AV} {cz ys : List CV} (hz : ers cz = zs) (hzf : fps cz = []) (hzp : PlL cz) (hzk : ∀ w Z, OkL w Z cz) (hy : PlL ys) (is : List Nat) {w' : World} (hyk : OkL w' Z ys) (hc : bldChk zs (is.zip (ers ys)) = true) :
    OkL w' Z (setAll cz (is.zip ys)) ∧ Fits (fps (setAll cz (is.zip ys))) (fps ys) ∧ PlL (setAll cz (is.zip ys)) ∧ ers (setAll cz (is.zip ys)) = asetAll zs (is.zip (ers ys)) ∧
      ∀ p ∈ is.zip ys, Pl p.2 ∧ (cz.map fun x => (flat x).length)[p.1]? = some (flat p.2).length := by
  have hmem : ∀ u, (∃ p ∈ is.zip ys, p.2 = u) → u ∈ ys := fun u ⟨p, hp, e⟩ => e ▸ (List.of_mem_zip hp).2
  refine ⟨?_, ?_, ?_, ?_, ?_⟩
  · rw [okL_iff]
    intro u hu
    rcases mem_setAll _ _ hu with hu | hu
    · exact (okL_iff _).1 (hzk _ _) u hu
    · exact (okL_iff _).1 hyk u (hmem u hu)
  · have := fps_setAll (is.zip ys) cz
    rw [hzf, List.append_nil] at this
    exact this.trans (Fits.of_sublist (fps_sublist (zip_snd is ys)))
  · rw [plL_iff]
    intro u hu
    rcases mem_setAll _ _ hu with hu | hu
    · exact (plL_iff _).1 hzp u hu
    · exact (plL_iff _).1 hy u (hmem u hu)
  · rw [er_setAll, hz, zip_er]
  · intro p hp
    refine ⟨(plL_iff _).1 hy _ (List.of_mem_zip hp).2, ?_⟩
    obtain ⟨z, h1, h2⟩ := bldChk_at hc (p.1, er p.2) (by rw [← zip_er]; exact List.mem_map.2 ⟨p, hp, rfl⟩)
    simp only at h1 h2
    rw [← hz, ers_eq, List.getElem?_map] at h1
    rw [List.getElem?_map]
    cases hq : cz[p.1]? with
    | none => simp [hq] at h1
    | some q => simp only [hq, Option.map_some, Option.some.injEq] at h1 ⊢; rw [← h1, alen_er, alen_er] at h2; exact h2.symm

theorem build_sound (hT : TabOk P Γ) (h : Good K w0 Z Sc L a w) {o : Oper} {T : Nat} {parts : Array (Nat × Operand)} (ho : o.op = .build T parts) {fs : List Nat} (hk : Γ.kind T = .st fs) {zs : List AV} (hz : Γ.zero T = some (.agg zs))
    (hb : bldOk Γ T fs zs = true) {vs : List AV} (hvs : ards (ers Sc) (parts.toList.map (·.2)) = some vs) {vs' S' : List AV} (ht : atakes (ers Sc) vs = some (vs', S')) (hc : bldChk zs ((parts.toList.map (·.1)).zip vs') = true) :
    ES P K w0 Z L a w o (aput o.dst (.agg (asetAll zs ((parts.toList.map (·.1)).zip vs'))) S') := by
  obtain ⟨ys, Sc', rfl, e2, hG, hpl, hv⟩ := parts_good h hvs ht
  obtain ⟨hz1, i, v, h1, h2, h3, h4⟩ := hT.zero T _ hz
  obtain ⟨c0, q1, q2, q3, q4, q5⟩ := zcells_ok _ hz1
  obtain ⟨cz, rfl, q1'⟩ := er_agg q1
  obtain ⟨F, hu, hF, hall⟩ := hT.st T fs hk
  simp only [bldOk, Bool.and_eq_true, beq_iff_eq, List.all_eq_true, List.mem_range] at hb
  obtain ⟨hb1, hb2⟩ := hb
  have hbi : ∀ j, j < zs.length → ∃ t z, fs[j]? = some t ∧ zs[j]? = some z ∧ Γ.kind t ≠ .no ∧ Γ.size t = alen z ∧ Γ.off T j = ((zs.take j).map alen).sum := by
    intro j hj
    have := hb2 j hj
    rw [List.getElem?_eq_getElem hj, List.getElem?_eq_getElem (by omega)] at this
    simp only [Bool.and_eq_true, bne_iff_ne, beq_iff_eq] at this
    exact ⟨_, _, List.getElem?_eq_getElem (by omega), List.getElem?_eq_getElem hj, this.1.1, this.1.2, this.2⟩
  have hls : (cz.map fun x => (flat x).length) = zs.map alen := by
    rw [← q1', ers_eq, List.map_map]
    apply List.map_congr_left
    intro x _
    simp [alen_er]
  have hplace : P.built T (parts.toList.map fun p => (p.1, a.eval p.2)) = some (flats (setAll cz ((parts.toList.map (·.1)).zip ys))).toArray := by
    have hpm := places_some (P := P) (Γ := Γ) F.toList (fun f hf => by
      obtain ⟨j, hj⟩ := List.mem_iff_getElem?.1 hf
      have hjl := (List.getElem?_eq_some_iff.1 hj).1
      rw [Array.length_toList, hF, ← hb1] at hjl
      obtain ⟨t, z, p1, p2, p3, p4, p5⟩ := hbi j hjl
      obtain ⟨fd, r1, r2, r3⟩ := hall j t p1
      have : f = fd := by rw [Array.getElem?_toList, r1] at hj; simpa using hj.symm
      subst this
      obtain ⟨ii, s1, s2, _⟩ := hT.size t p3
      exact ⟨ii, by rw [r2]; exact s1, by rw [r2]; exact s2⟩)
    have hcells : v.cells = (flats cz).toArray := by
      have : v.cells.toList = flats cz := by rw [h3, ← q2]; rfl
      rw [← this]
    simp only [Program.built, h1, hu, h2, hpm, hcells]
    rw [← zip_parts parts.toList ys hv]
    refine fill_flats (zs.map alen) (fun j n hj => ?_) _ cz hls (fun p hp => ?_)
    · have hjl : j < zs.length := by have := (List.getElem?_eq_some_iff.1 hj).1; simpa using this
      obtain ⟨t, z, p1, p2, p3, p4, p5⟩ := hbi j hjl
      obtain ⟨fd, r1, r2, r3⟩ := hall j t p1
      rw [List.getElem?_map, p2, Option.map_some, Option.some.injEq] at hj
      simp only [List.getElem?_toArray, List.getElem?_map, Array.getElem?_toList, r1, Option.map_some]
      rw [r3, p5, r2, p4, hj, List.map_take]
    · have := (setAll_good (Z := Z) (w' := w) q1' (by simpa [fp] using q4) (by simpa only [Pl] using q3) (fun w Z => by have := q5 w Z; simpa only [Ok] using this) hpl (parts.toList.map (·.1)) (((okL_append _ _).1 ((okL_append _ _).1 hG.ok).2).1) hc).2.2.2.2 p hp
      rw [hls] at this
      exact this
  obtain ⟨g1, g2, g3, g4, _⟩ := setAll_good (Z := Z) (w' := w) q1' (by simpa [fp] using q4) (by simpa only [Pl] using q3) (fun w Z => by have := q5 w Z; simpa only [Ok] using this) hpl (parts.toList.map (·.1)) (((okL_append _ _).1 ((okL_append _ _).1 hG.ok).2).1) hc
  have hG2 : Good K w0 Z Sc' (.agg (setAll cz ((parts.toList.map (·.1)).zip ys)) :: L) a w := by
    refine hG.beside ?_ ?_ ?_
    · simp only [OkL, Ok]
      exact ⟨g1, ((okL_append _ _).1 ((okL_append _ _).1 hG.ok).2).2⟩
    · simp only [fps, fp, fps_append]
      refine ⟨fun hnd => ?_, fun b hb => ?_⟩
      · rw [List.nodup_append] at hnd ⊢
        exact ⟨g2.nodup hnd.1, hnd.2.1, fun u hu v hv => hnd.2.2 u (g2.sub u hu) v hv⟩
      · rcases List.mem_append.1 hb with hb | hb
        · exact List.mem_append.2 (.inl (g2.sub b hb))
        · exact List.mem_append.2 (.inr hb)
    · intro u hu
      rcases List.mem_cons.1 hu with rfl | hu
      · simpa only [NR, Pl] using g3
      · exact hG.nr u (by simp [hu])
  refine es_value (v := .agg (flats (setAll cz ((parts.toList.map (·.1)).zip ys))).toArray) (w' := w) ?_ (Sc' := cput o.dst (.agg (setAll cz ((parts.toList.map (·.1)).zip ys))) Sc') ?_ ?_
  · unfold execOp
    have hr := run_build (P := P) w T (parts.map fun p => (p.1, a.eval p.2)) _ (by rw [Array.toList_map]; exact hplace)
    simp only [ho, Sem.run_bind]
    have e : (parts.map fun (x : Nat × Operand) => (x.1, a.eval x.2)) = parts.map fun p => (p.1, a.eval p.2) := rfl
    first
    | rw [hr]; rfl
    | (simp only [hr, Result.andThen_ok]; rfl)
  · rw [er_cput, e2]; simp [er, g4]
  · exact hG2.put o.dst

theorem buildSlice_sound (hT : TabOk P Γ) (h : Good K w0 Z Sc L a w) {o : Oper} {T E n : Nat} {parts : Array (Nat × Operand)} (ho : o.op = .buildSlice T n parts) (hk : Γ.kind T = .sl E) (hE : Γ.kind E ≠ .no) {z : AV} (hz : Γ.zero E = some z)
    (hs0 : Γ.size E ≠ 0) (hn : n * Γ.size E ≤ 16777216) {vs : List AV} (hvs : ards (ers Sc) (parts.toList.map (·.2)) = some vs) {vs' S' : List AV} (ht : atakes (ers Sc) vs = some (vs', S')) (hc : bldChk (List.replicate n z) ((parts.toList.map (·.1)).zip vs') = true) :
    ES P K w0 Z L a w o (aput o.dst (.lst true (Γ.size E) (asetAll (List.replicate n z) ((parts.toList.map (·.1)).zip vs'))) S') := by
  obtain ⟨ys, Sc', rfl, e2, hG, hpl, hv⟩ := parts_good h hvs ht
  obtain ⟨hz1, i, v, h1, h2, h3, h4⟩ := hT.zero E _ hz
  obtain ⟨i', h1', hsz, hby⟩ := hT.size E hE
  rw [h1] at h1'; cases h1'
  obtain ⟨c0, q1, q2, q3, q4, q5⟩ := zcells_ok _ hz1
  have hu := hT.sl T E hk
  have hcl : (flat c0).length = i.size := by rw [q2, ← h3, Array.length_toList, h4]
  have hzl : ers (List.replicate n c0) = List.replicate n z := by rw [ers_rep, q1]
  have hrep : OkL w Z (List.replicate n c0) := (okL_iff _).2 fun u hu => by rw [List.eq_of_mem_replicate hu]; exact q5 _ _
  have hplr : PlL (List.replicate n c0) := (plL_iff _).2 fun u hu => by rw [List.eq_of_mem_replicate hu]; exact q3
  have hyk : OkL w Z ys := ((okL_append _ _).1 ((okL_append _ _).1 hG.ok).2).1
  obtain ⟨g1, g2, g3, g4, g5⟩ := setAll_good (Z := Z) (w' := w) hzl (fps_rep n c0 q4) hplr (fun w Z => (okL_iff _).2 fun u hu => by rw [List.eq_of_mem_replicate hu]; exact q5 _ _) hpl (parts.toList.map (·.1)) hyk hc
  obtain ⟨cs, hcs⟩ : ∃ cs, cs = setAll (List.replicate n c0) ((parts.toList.map (·.1)).zip ys) := ⟨_, rfl⟩
  have hlen : cs.length = n := by rw [hcs, setAll_len]; simp
  have hlens : (List.map (fun x => (flat x).length) (List.replicate n c0)) = List.replicate n i.size := by simp [hcl]
  have hall : ∀ u ∈ cs, (flat u).length = i.size := fun u hu => by
    rw [hcs] at hu
    rcases mem_setAll _ _ hu with hu | ⟨p, hp, rfl⟩
    · rw [List.eq_of_mem_replicate hu]; exact hcl
    · have := (g5 p hp).2
      rw [hlens, List.getElem?_replicate] at this
      split at this
      · simpa using this.symm
      · cases this
  have hcells : ∀ j u, (flats cs)[j]? = some u → (flats cs).toArray[j]? = some u := fun j u hj => by rw [List.getElem?_toArray]; exact hj
  have hfl : (flats cs).length = n * i.size := by
    have : ∀ us : List CV, (∀ u ∈ us, (flat u).length = i.size) → (flats us).length = us.length * i.size := by
      intro us
      induction us with
      | nil => intro _; simp [flats]
      | cons u us ih => intro hu; simp only [flats, List.length_append, List.length_cons, hu u (by simp), ih (fun q hq => hu q (by simp [hq]))]; rw [Nat.add_mul]; omega
    rw [this cs hall, hlen]
  have hrun : (Instr.buildSlice T n (parts.map fun p => (p.1, a.eval p.2))).run P w = .ok (.slice (some ⟨w.heap.size, 0, none⟩) n n) (w.alloc (.cells (flats cs).toArray E)) := by
    have hps : (parts.map fun p => (p.1, a.eval p.2)).toList = (((parts.toList.map (·.1)).zip ys).map fun p => (p.1, val p.2)) := by rw [Array.toList_map, zip_parts parts.toList ys hv]
    by_cases hn0 : n = 0
    · subst hn0
      have hnil : ((parts.toList.map (·.1)).zip ys) = [] := by
        cases hq : (parts.toList.map (·.1)).zip ys with
        | nil => rfl
        | cons p ps =>
          have := (g5 p (by rw [hq]; simp)).2
          simp at this
      rw [hnil, List.map_nil] at hps
      have hcsn : cs = [] := List.eq_nil_of_length_eq_zero hlen
      subst hcsn
      have hps' : parts.toList.map (fun p => (p.1, a.eval p.2)) = [] := by rw [← Array.toList_map]; exact hps
      have hr0 : Array.range 0 = #[] := rfl
      simp [Instr.buildSlice, run_underlying hu, sizeOf, typeInfo, h1, hps', hr0, Instr.fill, run_newRow, flats]
    · have hpos : ¬ n * i.size = 0 := by rw [hsz]; exact Nat.mul_ne_zero hn0 hs0
      refine run_buildSlice (P := P) w T E n _ _ i v hu h1 h2 (by rw [hsz]; omega) hpos ?_
      rw [hps]
      have hz0 : (Array.range (n * i.size)).map (v.cells[· % v.cells.size]!) = (flats (List.replicate n c0)).toArray := by
        apply Array.ext'
        apply List.ext_getElem?
        intro j
        have hfr : (flats (List.replicate n c0)).length = n * i.size := by
          rw [flats_len]; simp [hcl]
        by_cases hj : j < n * i.size
        · have hj2 : (flats (List.replicate n c0))[j]? = some ((flats (List.replicate n c0))[j]'(by omega)) := List.getElem?_eq_getElem _
          obtain ⟨r1, _⟩ := flats_rep c0 n j _ hj2
          rw [hcl] at r1
          have hs0' : j % i.size < v.cells.size := by rw [h4]; exact Nat.mod_lt _ (by omega)
          rw [q2, ← h3, Array.getElem?_toList, Array.getElem?_eq_getElem hs0'] at r1
          have hr : (Array.range (n * i.size))[j]? = some j := by simp [hj]
          simp only [Array.getElem?_toList, Array.getElem?_map, hr, Option.map_some, h4]
          rw [getElem!_pos v.cells _ hs0', hj2]
          exact r1
        · rw [List.getElem?_eq_none (by simp; omega), List.getElem?_eq_none (by simp; omega)]
      rw [hz0, hcs]
      refine fill_flats (List.replicate n i.size) (fun j m hj => ?_) _ _ hlens (fun p hp => by rw [← hlens]; exact g5 p hp)
      rw [List.getElem?_replicate] at hj
      split at hj
      · rename_i hjn
        simp only [Option.some.injEq] at hj
        subst hj
        rw [List.take_replicate, List.sum_replicate_nat, Nat.min_eq_left (Nat.le_of_lt hjn)]
      · cases hj
  rw [← hcs] at g1 g2 g3 g4
  have hG2 := hG.block (M := ys) (L := L) (c := .lst true i.size (some ⟨w.heap.size, 0, none⟩) n cs) (o := .cells (flats cs).toArray E) ?_ ?_ ?_
  · refine es_value (v := .slice (some ⟨w.heap.size, 0, none⟩) n n) (w' := w.alloc (.cells (flats cs).toArray E)) ?_ (Sc' := cput o.dst (.lst true i.size (some ⟨w.heap.size, 0, none⟩) n cs) Sc') ?_ ?_
    · unfold execOp
      simp only [ho, Sem.run_bind]
      first
      | rw [hrun]; rfl
      | (simp only [hrun, Result.andThen_ok]; rfl)
    · rw [er_cput, e2]; simp [er, g4, hsz]
    · have := hG2.put o.dst
      simpa [val, val1, flat, hlen] using this
  · simp only [fp]
    refine ⟨fun hnd => ?_, fun b hb => ?_⟩
    · have hn2 := List.nodup_cons.1 hnd
      split
      · simpa using g2.nodup hn2.2
      · simp only [Option.map_some, Option.toList_some, List.singleton_append]
        exact List.nodup_cons.2 ⟨fun hm => hn2.1 (g2.sub _ hm), g2.nodup hn2.2⟩
    · split at hb
      · simp only [List.nil_append] at hb; exact List.mem_cons_of_mem _ (g2.sub b hb)
      · simp only [Option.map_some, Option.toList_some, List.singleton_append, List.mem_cons] at hb
        rcases hb with rfl | hb
        · simp
        · exact List.mem_cons_of_mem _ (g2.sub b hb)
  · have hnewb := heap_alloc_new w (.cells (flats cs).toArray E)
    have hold : ∀ k, k < w.heap.size → (w.alloc (.cells (flats cs).toArray E)).heap[k]? = w.heap[k]? := fun k hk => heap_alloc_old w _ k hk
    simp only [Ok]
    refine ⟨⟨by omega, ?_, fun _ hc0 => ⟨by rw [hsz]; exact hs0, _, _, _, rfl, rfl, hnewb, ?_, ?_⟩⟩, hall, by simp, ?_⟩
    · refine .inr ⟨_, rfl, rfl, ?_, by simp⟩
      rw [cellsAt_iff rfl]
      intro j u hj
      simp only [World.cell?, hnewb, Option.isSome_none, Bool.false_eq_true, if_false, Nat.zero_add]
      exact hcells j u hj
    · have : n * 1 ≤ n * Γ.size E := Nat.mul_le_mul_left _ (by omega)
      unfold maxLen; omega
    · simp [hfl]
    · have hlt : ∀ k, (k ∈ fps ys ∨ Z k) → k < w.heap.size := fun k hk => hG.lt k (hk.imp (fun hk => by simp [fps_append, hk]) id)
      exact OkL.congr (fun _ h => h) (fun k hk => hold k (hlt k (.inr hk))) _ (fun k hk => hold k (hlt k (.inl (g2.sub k hk)))) g1
  · simpa only [NR, Pl] using g3

theorem ao_build (hT : TabOk P Γ) {S : List AV} {o : Oper} {T : Nat} {parts : Array (Nat × Operand)} (ho : o.op = .build T parts) {fs : List Nat} (hk : Γ.kind T = .st fs) {zs : List AV} (hz : Γ.zero T = some (.agg zs))
    (hb : bldOk Γ T fs zs = true) {vs : List AV} (hvs : ards S (parts.toList.map (·.2)) = some vs) {vs' S' : List AV} (ht : atakes S vs = some (vs', S')) (hc : bldChk zs ((parts.toList.map (·.1)).zip vs') = true) :
    AO P o S (aput o.dst (.agg (asetAll zs ((parts.toList.map (·.1)).zip vs'))) S') :=
  es_AO fun K w0 Z Sc a w e hG => by subst e; exact build_sound hT hG ho hk hz hb hvs ht hc
theorem ao_buildSlice (hT : TabOk P Γ) {S : List AV} {o : Oper} {T E n : Nat} {parts : Array (Nat × Operand)} (ho : o.op = .buildSlice T n parts) (hk : Γ.kind T = .sl E) (hE : Γ.kind E ≠ .no) {z : AV} (hz : Γ.zero E = some z)
    (hs0 : Γ.size E ≠ 0) (hn : n * Γ.size E ≤ 16777216) {vs : List AV} (hvs : ards S (parts.toList.map (·.2)) = some vs) {vs' S' : List AV} (ht : atakes S vs = some (vs', S')) (hc : bldChk (List.replicate n z) ((parts.toList.map (·.1)).zip vs') = true) :
    AO P o S (aput o.dst (.lst true (Γ.size E) (asetAll (List.replicate n z) ((parts.toList.map (·.1)).zip vs'))) S') :=
  es_AO fun K w0 Z Sc a w e hG => by subst e; exact buildSlice_sound hT hG ho hk hE hz hs0 hn hvs ht hc
end
end Go.Bv
