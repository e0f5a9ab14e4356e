/- Good: a frame of by-value slots stands for a real frame and a world; put and take. Generic: no program. -/
import Derived.Test.YtjmodjanaeoiiaaBvE
namespace Go.Bv
open Go Go.RowKit
set_option linter.unusedSimpArgs false
set_option linter.unusedVariables false

/-- What stands beside the frame: a plain value, a box or a tuple of plain ones. -/
def NR : CV → Prop
  | .box _ _ x => Pl x
  | .tup xs => ∀ x ∈ xs, (∃ v, x = .undef v) ∨ Pl x
  | x => Pl x
theorem Pl.nr {x : CV} (h : Pl x) : NR x := by cases x <;> first | exact h | simp [Pl] at h
theorem NR.wf {x : CV} (h : NR x) : Wf x := by
  cases x
  case box b ty z => exact h
  case tup xs =>
    simp only [NR] at h; simp only [Wf]; rw [wfL_iff]
    intro y hy
    rcases h y hy with ⟨v, rfl⟩ | hp
    · simp [Wf]
    · exact Pl.wf _ hp
  all_goals exact Pl.wf _ h
theorem NR.refOk {x : CV} {Sc : List CV} (h : NR x) : RefOk Sc x := by
  cases x
  case box b ty z => simp [RefOk]
  case tup xs =>
    simp only [NR] at h; simp only [RefOk]; rw [refOkL_iff]
    intro y hy
    rcases h y hy with ⟨v, rfl⟩ | hp
    · simp [RefOk]
    · exact Pl.refOk _ hp
  all_goals exact Pl.refOk _ h

mutual
/-- No list of its own. -/
def NoOwn : CV → Prop
  | .lst o _ _ _ _ => o = false
  | .agg xs => NoOwnL xs
  | .tup _ => False
  | .box _ _ _ => False
  | _ => True
def NoOwnL : List CV → Prop
  | [] => True
  | x :: xs => NoOwn x ∧ NoOwnL xs
end
theorem noOwnL_iff (xs : List CV) : NoOwnL xs ↔ ∀ x ∈ xs, NoOwn x := by induction xs <;> simp [NoOwnL, *]
mutual
theorem NoOwn.fp {w : World} {Z : Nat → Prop} : ∀ x : CV, NoOwn x → Ok w Z x → fp x = []
  | .lst o s A c xs, h, hk => by simp only [NoOwn] at h; simp only [Ok] at hk; simp [Bv.fp, h, hk.2.2.1 h]
  | .agg xs, h, hk => by simp only [NoOwn] at h; simp only [Ok] at hk; simp only [Bv.fp]; exact NoOwnL.fp xs h hk
  | .fn _ xs, h, hk => by simp only [Ok] at hk; simp only [Bv.fp]; exact hk.1
  | .undef _, _, _ | .bool _, _, _ | .int _ _, _, _ | .str _, _, _ | .ip _ _, _, _ | .at _ _ _, _, _ | .ref _ _ _ _ _, _, _ => by simp [Bv.fp]
  | .tup _, h, _ | .box _ _ _, h, _ => by simp [NoOwn] at h
theorem NoOwnL.fp {w : World} {Z : Nat → Prop} : ∀ xs : List CV, NoOwnL xs → OkL w Z xs → fps xs = []
  | [], _, _ => by simp [fps]
  | x :: xs, h, hk => by simp only [NoOwnL] at h; simp only [OkL] at hk; simp [fps, NoOwn.fp x h.1 hk.1, NoOwnL.fp xs h.2 hk.2]
end

/-- What of one list of blocks fits another. -/
structure Fits (l1 l2 : List Nat) : Prop where
  nodup : l2.Nodup → l1.Nodup
  sub : ∀ b ∈ l1, b ∈ l2
theorem Fits.refl (l : List Nat) : Fits l l := ⟨id, fun _ h => h⟩
theorem Fits.trans {a b c : List Nat} (h : Fits a b) (k : Fits b c) : Fits a c := ⟨fun n => h.nodup (k.nodup n), fun x hx => k.sub x (h.sub x hx)⟩
theorem Fits.of_sublist {a b : List Nat} (h : a.Sublist b) : Fits a b := ⟨fun n => h.nodup n, fun _ hx => h.subset hx⟩
theorem Fits.of_perm {a b : List Nat} (h : a.Perm b) : Fits a b := ⟨fun n => h.nodup_iff.2 n, fun x hx => h.mem_iff.1 hx⟩

structure Good (K : Nat → Prop) (w0 : World) (Z : Nat → Prop) (Sc L : List CV) (a : Act) (w : World) : Prop where
  defers : a.defers = []
  size : a.tmps.size = Sc.length
  tmps : ∀ t, t < a.tmps.size → a.tmps[t]? = (Sc[t]?).map val
  ok : OkL w Z (Sc ++ L)
  nodup : (fps (Sc ++ L)).Nodup
  apart : ∀ b ∈ fps (Sc ++ L), ¬ Z b
  lt : ∀ b, (b ∈ fps (Sc ++ L) ∨ Z b) → b < w.heap.size
  refs : ∀ x ∈ Sc, RefOk Sc x
  wf : ∀ x ∈ Sc, Wf x
  sorted : ∀ x ∈ Sc, NR x ∨ NoOwn x
  nr : ∀ x ∈ L, NR x
  kept : ∀ b, K b → b < w0.heap.size ∧ b ∉ fps (Sc ++ L) ∧ w.heap[b]? = w0.heap[b]?
  os : w.os = w0.os
  tape : w.tape = w0.tape
  output : w.output = w0.output
  grew : w0.heap.size ≤ w.heap.size

section
variable {K : Nat → Prop} {w0 : World} {Z : Nat → Prop} {Sc L : List CV} {a : Act} {w : World}

/-- The frame turned, the world and the real frame as they were. -/
theorem Good.turn (h : Good K w0 Z Sc L a w) {Sc' L' : List CV} (hlen : Sc'.length = Sc.length) (hv : ∀ t : Nat, (Sc'[t]?).map val = (Sc[t]?).map val) (hok : OkL w Z (Sc' ++ L'))
    (hf : Fits (fps (Sc' ++ L')) (fps (Sc ++ L))) (hr : ∀ x ∈ Sc', RefOk Sc' x) (hw : ∀ x ∈ Sc', Wf x) (hso : ∀ x ∈ Sc', NR x ∨ NoOwn x) (hn : ∀ x ∈ L', NR x) : Good K w0 Z Sc' L' a w where
  defers := h.defers
  size := by rw [hlen]; exact h.size
  tmps := fun t ht => by rw [hv]; exact h.tmps t ht
  ok := hok
  nodup := hf.nodup h.nodup
  apart := fun b hb => h.apart b (hf.sub b hb)
  lt := fun b hb => h.lt b (hb.imp (hf.sub b) id)
  refs := hr
  wf := hw
  sorted := hso
  nr := hn
  kept := fun b hb => ⟨(h.kept b hb).1, fun hm => (h.kept b hb).2.1 (hf.sub b hm), (h.kept b hb).2.2⟩
  os := h.os
  tape := h.tape
  output := h.output
  grew := h.grew

/-- What stands beside the frame turned alone. -/
theorem Good.beside (h : Good K w0 Z Sc L a w) {L' : List CV} (hok : OkL w Z L') (hf : Fits (fps L') (fps L)) (hn : ∀ x ∈ L', NR x) : Good K w0 Z Sc L' a w := by
  refine h.turn rfl (fun _ => rfl) ((okL_append _ _).2 ⟨((okL_append _ _).1 h.ok).1, hok⟩) ⟨fun hnd => ?_, fun b hb => ?_⟩ h.refs h.wf h.sorted hn
  · rw [fps_append, List.nodup_append] at hnd ⊢
    exact ⟨hnd.1, hf.nodup hnd.2.1, fun x hx y hy => hnd.2.2 x hx y (hf.sub y hy)⟩
  · rw [fps_append, List.mem_append] at hb ⊢
    exact hb.imp id (hf.sub b)

mutual
/-- Does it name slot d? -/
def men (d : Nat) : CV → Bool
  | .at r _ _ => d == r
  | .ref r _ _ _ _ => d == r
  | .agg xs => mens d xs
  | .tup xs => mens d xs
  | .fn _ xs => mens d xs
  | _ => false
def mens (d : Nat) : List CV → Bool
  | [] => false
  | x :: xs => men d x || mens d xs
end
mutual
def menA (d : Nat) : AV → Bool
  | .at r _ => d == r
  | .ref r _ _ _ => d == r
  | .agg xs => menAs d xs
  | .tup xs => menAs d xs
  | .fn _ xs => menAs d xs
  | _ => false
def menAs (d : Nat) : List AV → Bool
  | [] => false
  | x :: xs => menA d x || menAs d xs
end
mutual
theorem men_er (d : Nat) : ∀ x : CV, menA d (er x) = men d x
  | .agg xs => by simp only [er, menA, men]; exact mens_er d xs
  | .tup xs => by simp only [er, menA, men]; exact mens_er d xs
  | .fn _ xs => by simp only [er, menA, men]; exact mens_er d xs
  | .undef _ | .bool _ | .int _ _ | .str _ | .lst _ _ _ _ _ | .ip _ _ | .at _ _ _ | .ref _ _ _ _ _ | .box _ _ _ => by simp [er, menA, men]
theorem mens_er (d : Nat) : ∀ xs : List CV, menAs d (ers xs) = mens d xs
  | [] => by simp [ers, menAs, mens]
  | x :: xs => by simp only [ers, menAs, mens, men_er d x, mens_er d xs]
end
mutual
theorem Pl.men (d : Nat) : ∀ x : CV, Pl x → men d x = false
  | .agg xs, h => by simp only [Pl, Bv.men] at h ⊢; exact PlL.men d xs h
  | .fn _ xs, h => by simp only [Pl, Bv.men] at h ⊢; exact PlL.men d xs h
  | .undef _, _ | .bool _, _ | .int _ _, _ | .str _, _ | .lst _ _ _ _ _, _ | .ip _ _, _ => by simp [Bv.men]
  | .at _ _ _, h | .ref _ _ _ _ _, h | .box _ _ _, h | .tup _, h => by simp [Pl] at h
theorem PlL.men (d : Nat) : ∀ xs : List CV, PlL xs → mens d xs = false
  | [], _ => by simp [mens]
  | x :: xs, h => by simp only [PlL, mens] at h ⊢; simp [Pl.men d x h.1, PlL.men d xs h.2]
end
theorem mens_mem {d : Nat} : ∀ {xs : List CV}, (∀ x ∈ xs, men d x = false) → mens d xs = false
  | [], _ => by simp [mens]
  | x :: xs, h => by simp only [mens, h x List.mem_cons_self, mens_mem fun y hy => h y (List.mem_cons_of_mem _ hy), Bool.or_false]
theorem NR.men {d : Nat} {x : CV} (h : NR x) : men d x = false := by
  cases x
  case box b ty z => simp [Bv.men]
  case tup xs =>
    simp only [NR] at h; simp only [Bv.men]
    refine mens_mem fun y hy => ?_
    rcases h y hy with ⟨v, rfl⟩ | hp
    · simp [Bv.men]
    · exact Pl.men d _ hp
  all_goals exact Pl.men d _ h
theorem root_men {d : Nat} {x : CV} (h : Pl (rootC x).1) : men d x = false := by
  cases x <;> first | (simp [Bv.men]; done) | exact Pl.men d _ h

def rootable : CV → Bool
  | .box _ _ _ | .lst _ _ _ _ _ | .agg _ | .tup _ => true
  | _ => false
def rootableA : AV → Bool
  | .box _ | .lst _ _ _ | .agg _ | .tup _ => true
  | _ => false
theorem rootable_er (x : CV) : rootableA (er x) = rootable x := by cases x <;> simp [er, rootable, rootableA]
def cun (d : Nat) (x : CV) : CV := if men d x then .undef (val x) else x
def aun (d : Nat) (x : AV) : AV := if menA d x then .undef else x
theorem er_cun (d : Nat) (x : CV) : er (cun d x) = aun d (er x) := by simp only [cun, aun, men_er]; split <;> simp [er]
theorem val_cun (d : Nat) (x : CV) : val (cun d x) = val x := by unfold cun; split <;> simp [val_undef]
def cput (dst : Option Nat) (c : CV) (Sc : List CV) : List CV :=
  match dst with
  | none => Sc
  | some d => match Sc[d]? with
    | some x => if rootable x then (Sc.map (cun d)).set d (cun d c) else Sc.set d c
    | none => Sc
def aput (dst : Option Nat) (c : AV) (S : List AV) : List AV :=
  match dst with
  | none => S
  | some d => match S[d]? with
    | some x => if rootableA x then (S.map (aun d)).set d (aun d c) else S.set d c
    | none => S
theorem er_cput (dst : Option Nat) (c : CV) (Sc : List CV) : ers (cput dst c Sc) = aput dst (er c) (ers Sc) := by
  cases dst with
  | none => rfl
  | some d =>
    simp only [cput, aput, ers_eq, List.getElem?_map]
    cases hx : Sc[d]? with
    | none => simp
    | some x =>
      simp only [Option.map_some, rootable_er]
      split
      · simp only [List.map_set, List.map_map, er_cun]
        congr 1
        apply List.map_congr_left
        intro y _; simp [er_cun]
      · simp [List.map_set]

mutual
/-- References hold behind a put, where they don't name the slot. -/
theorem RefOk.put {Sc Sc' : List CV} {d : Nat} (hS : ∀ r x, r ≠ d → Sc[r]? = some x → Pl (rootC x).1 → Sc'[r]? = some x) : ∀ x : CV, men d x = false → RefOk Sc x → RefOk Sc' x
  | .at r p ad, hm, h => by
    simp only [Bv.men] at hm
    simp only [RefOk] at h ⊢
    obtain ⟨x, y, h1, h2, h3⟩ := h
    exact ⟨x, y, hS r x (fun e => by simp [e] at hm) h1 h2, h2, h3⟩
  | .ref r p lo n v, hm, h => by
    simp only [Bv.men] at hm
    simp only [RefOk] at h ⊢
    obtain ⟨x, s, A, c, xs, l, h1, h2, h3⟩ := h
    exact ⟨x, s, A, c, xs, l, hS r x (fun e => by simp [e] at hm) h1 h2, h2, h3⟩
  | .agg xs, hm, h => by simp only [Bv.men, RefOk] at hm h ⊢; exact RefOkL.put hS xs hm h
  | .tup xs, hm, h => by simp only [Bv.men, RefOk] at hm h ⊢; exact RefOkL.put hS xs hm h
  | .fn _ xs, hm, h => by simp only [Bv.men, RefOk] at hm h ⊢; exact RefOkL.put hS xs hm h
  | .undef _, _, _ | .bool _, _, _ | .int _ _, _, _ | .str _, _, _ | .lst _ _ _ _ _, _, _ | .ip _ _, _, _ | .box _ _ _, _, _ => by simp [RefOk]
theorem RefOkL.put {Sc Sc' : List CV} {d : Nat} (hS : ∀ r x, r ≠ d → Sc[r]? = some x → Pl (rootC x).1 → Sc'[r]? = some x) : ∀ xs : List CV, mens d xs = false → RefOkL Sc xs → RefOkL Sc' xs
  | [], _, _ => by simp [RefOkL]
  | x :: xs, hm, h => by
    simp only [mens, Bool.or_eq_false_iff] at hm
    simp only [RefOkL] at h ⊢
    exact ⟨RefOk.put hS x hm.1 h.1, RefOkL.put hS xs hm.2 h.2⟩
end
mutual
/-- A slot that is named is a box, a list or a struct. -/
theorem RefOk.rootable {Sc : List CV} {d : Nat} {x0 : CV} (hd : Sc[d]? = some x0) (hx : rootable x0 = false) : ∀ x : CV, RefOk Sc x → men d x = false
  | .at r p ad, h => by
    simp only [RefOk] at h
    simp only [Bv.men]
    obtain ⟨x, y, h1, h2, h3⟩ := h
    by_cases e : d = r
    · subst e
      rw [hd] at h1; cases h1
      cases x0 <;> simp [Bv.rootable] at hx <;> cases p <;> simp [rootC, cgetN] at h3
    · simpa using e
  | .ref r p lo n v, h => by
    simp only [RefOk] at h
    simp only [Bv.men]
    obtain ⟨x, s, A, c, xs, l, h1, h2, h3, _⟩ := h
    by_cases e : d = r
    · subst e
      rw [hd] at h1; cases h1
      cases x0 <;> simp [Bv.rootable] at hx <;> cases p <;> simp [rootC, cgetN] at h3
    · simpa using e
  | .agg xs, h => by simp only [Bv.men, RefOk] at h ⊢; exact RefOkL.rootable hd hx xs h
  | .tup xs, h => by simp only [Bv.men, RefOk] at h ⊢; exact RefOkL.rootable hd hx xs h
  | .fn _ xs, h => by simp only [Bv.men, RefOk] at h ⊢; exact RefOkL.rootable hd hx xs h
  | .undef _, _ | .bool _, _ | .int _ _, _ | .str _, _ | .lst _ _ _ _ _, _ | .ip _ _, _ | .box _ _ _, _ => by simp [Bv.men]
theorem RefOkL.rootable {Sc : List CV} {d : Nat} {x0 : CV} (hd : Sc[d]? = some x0) (hx : rootable x0 = false) : ∀ xs : List CV, RefOkL Sc xs → mens d xs = false
  | [], _ => by simp [mens]
  | x :: xs, h => by simp only [RefOkL] at h; simp [mens, RefOk.rootable hd hx x h.1, RefOkL.rootable hd hx xs h.2]
end
theorem fps_cun (d : Nat) : ∀ xs : List CV, (fps (xs.map (cun d))).Sublist (fps xs)
  | [] => by simp [fps]
  | x :: xs => by
    simp only [List.map_cons, fps]
    refine List.Sublist.append ?_ (fps_cun d xs)
    unfold cun
    split
    · simp [fp]
    · exact List.Sublist.refl _
theorem okL_cun (d : Nat) : ∀ xs : List CV, OkL w Z xs → OkL w Z (xs.map (cun d))
  | [], _ => by simp [OkL]
  | x :: xs, h => by
    simp only [OkL] at h
    simp only [List.map_cons, OkL]
    refine ⟨?_, okL_cun d xs h.2⟩
    unfold cun
    split
    · simp [Ok]
    · exact h.1

/-- A value that owns no more than what stands beside the frame goes into a slot in its stead. -/
theorem Good.putG {u c : CV} (h : Good K w0 Z Sc (u :: L) a w) (dst : Option Nat) (hc : Ok w Z c) (hfu : Fits (fp c) (fp u)) (hr : RefOk Sc c) (hwf : Wf c) (hso : NR c ∨ NoOwn c) :
    Good K w0 Z (cput dst c Sc) L (a.put dst (val c)) w := by
  have hL : Good K w0 Z Sc L a w := h.beside (((okL_append _ _).1 h.ok).2.2) (Fits.of_sublist (by simp only [fps]; exact List.sublist_append_right _ _)) (fun x hx => h.nr x (by simp [hx]))
  cases dst with
  | none => exact hL
  | some d =>
    cases hx : Sc[d]? with
    | none =>
      simp only [cput, hx]
      have hd : a.tmps.size ≤ d := by
        have := (List.getElem?_eq_none_iff.1 hx); have := h.size; omega
      have : a.put (some d) (val c) = a := by simp [Act.put, Array.setIfInBounds, show ¬ d < a.tmps.size by omega]
      rw [this]; exact hL
    | some x =>
      simp only [cput, hx]
      have hdl := (List.getElem?_eq_some_iff.1 hx).1
      -- one list for both cases
      have key : ∀ (T : List CV) (c' : CV), T.length = Sc.length → (∀ t : Nat, (T[t]?).map val = (Sc[t]?).map val) → OkL w Z T → (fps T).Sublist (fps Sc) →
          (∀ y ∈ T, men d y = false) → (∀ y ∈ T, RefOk Sc y) → (∀ y ∈ T, Wf y) → (∀ y ∈ T, NR y ∨ NoOwn y) → (∀ r y, r ≠ d → Sc[r]? = some y → Pl (rootC y).1 → T[r]? = some y) →
          val c' = val c → Ok w Z c' → Fits (fp c') (fp u) → RefOk Sc c' → Wf c' → (NR c' ∨ NoOwn c') → men d c' = false → Good K w0 Z (T.set d c') L (a.put (some d) (val c)) w := by
        intro T c' hlen hv hokT hsub hmen hrT hwT hsT hST hvc hokc hfc hrc hwc hsc hmc
        have hdT : d < T.length := by omega
        obtain ⟨y, hy⟩ : ∃ y, T[d]? = some y := ⟨T[d], List.getElem?_eq_getElem hdT⟩
        have hset := set_at c' hy
        have hperm : Fits (fps (T.set d c' ++ L)) (fps (Sc ++ u :: L)) := by
          have h1 : fps (T.set d c' ++ L) = fps (T.take d) ++ (fp c' ++ (fps (T.drop (d + 1)) ++ fps L)) := by rw [hset]; simp [fps_append, fps]
          have h2 : fps (Sc ++ u :: L) = fps Sc ++ (fp u ++ fps L) := by simp [fps_append, fps]
          rw [h1, h2]
          refine Fits.trans (b := (fps (T.take d) ++ fps (T.drop (d + 1))) ++ (fp c' ++ fps L)) (Fits.of_perm ?_) ?_
          · rw [List.append_assoc]
            refine List.Perm.append_left _ ?_
            rw [← List.append_assoc, ← List.append_assoc]
            exact List.Perm.append_right _ List.perm_append_comm
          have hs1 : (fps (T.take d) ++ fps (T.drop (d + 1))).Sublist (fps Sc) := by
            refine List.Sublist.trans ?_ hsub
            rw [fps_cut hy]
            exact List.Sublist.append (List.Sublist.refl _) (List.sublist_append_right _ _)
          refine Fits.trans (b := fps Sc ++ (fp c' ++ fps L)) (Fits.of_sublist (List.Sublist.append hs1 (List.Sublist.refl _))) ⟨fun hnd => ?_, fun b hb => ?_⟩
          · rw [List.nodup_append, List.nodup_append] at hnd ⊢
            obtain ⟨n1, ⟨n2, n3, n4⟩, n5⟩ := hnd
            exact ⟨n1, ⟨hfc.nodup n2, n3, fun a ha b hb => n4 a (hfc.sub a ha) b hb⟩, fun a ha b hb => n5 a ha b (by
              rcases List.mem_append.1 hb with hb | hb
              · exact List.mem_append.2 (.inl (hfc.sub b hb))
              · exact List.mem_append.2 (.inr hb))⟩
          · simp only [List.mem_append] at hb ⊢
            rcases hb with hb | hb | hb
            · exact .inl hb
            · exact .inr (.inl (hfc.sub b hb))
            · exact .inr (.inr hb)
        have hokA := (okL_append Sc (u :: L)).1 h.ok
        refine { defers := ?_, size := ?_, tmps := ?_, ok := ?_, nodup := hperm.nodup h.nodup, apart := fun b hb => h.apart b (hperm.sub b hb),
                 lt := fun b hb => h.lt b (hb.imp (hperm.sub b) id), refs := ?_, wf := ?_, sorted := ?_, nr := hL.nr, kept := fun b hb => ⟨(h.kept b hb).1, fun hm => (h.kept b hb).2.1 (hperm.sub b hm), (h.kept b hb).2.2⟩, os := h.os, tape := h.tape, output := h.output, grew := h.grew }
        · simpa [Act.put] using h.defers
        · simpa [Act.put, hlen] using h.size
        · intro t ht
          have ht' : t < a.tmps.size := by simpa [Act.put] using ht
          by_cases e : d = t
          · subst e
            simp [Act.put, ht', hdT, hvc]
          · rw [List.getElem?_set_ne e]
            simp only [Act.put]
            rw [Array.getElem?_setIfInBounds_ne e, h.tmps t ht', hv]
        · rw [okL_append, okL_set hy]
          have hokT' := (okL_cut hy).1 hokT
          exact ⟨⟨hokT'.1, hokc, hokT'.2.2⟩, hokA.2.2⟩
        · intro z hz
          rcases List.mem_or_eq_of_mem_set hz with hz | rfl
          · refine RefOk.put (d := d) (fun r x' hr hx' hp => ?_) z (hmen z hz) (hrT z hz)
            rw [List.getElem?_set_ne (Ne.symm hr)]
            exact hST r x' hr hx' hp
          · refine RefOk.put (d := d) (fun r x' hr hx' hp => ?_) z hmc hrc
            rw [List.getElem?_set_ne (Ne.symm hr)]
            exact hST r x' hr hx' hp
        · intro z hz
          rcases List.mem_or_eq_of_mem_set hz with hz | rfl
          · exact hwT z hz
          · exact hwc
        · intro z hz
          rcases List.mem_or_eq_of_mem_set hz with hz | rfl
          · exact hsT z hz
          · exact hsc
      have hokS := ((okL_append _ _).1 h.ok).1
      split
      · rename_i hroot
        refine key (Sc.map (cun d)) (cun d c) (by simp) (fun t => ?_) (okL_cun d Sc hokS) (fps_cun d Sc) ?_ ?_ ?_ ?_ ?_ (val_cun d c) ?_ ?_ ?_ ?_ ?_ ?_
        · simp only [List.getElem?_map, Option.map_map]
          congr 1; funext z; simp [val_cun]
        · intro y hy
          obtain ⟨z, hz, rfl⟩ := List.mem_map.1 hy
          unfold cun; split
          · simp [men]
          · rename_i hm; simpa using hm
        · intro y hy
          obtain ⟨z, hz, rfl⟩ := List.mem_map.1 hy
          unfold cun; split
          · simp [RefOk]
          · exact h.refs z hz
        · intro y hy
          obtain ⟨z, hz, rfl⟩ := List.mem_map.1 hy
          unfold cun; split
          · simp [Wf]
          · exact h.wf z hz
        · intro y hy
          obtain ⟨z, hz, rfl⟩ := List.mem_map.1 hy
          unfold cun; split
          · exact .inr (by simp [NoOwn])
          · exact h.sorted z hz
        · intro r y _ hy hp
          simp [List.getElem?_map, hy, cun, root_men hp]
        · unfold cun; split
          · simp [Ok]
          · exact hc
        · unfold cun; split
          · exact Fits.of_sublist (by simp [fp])
          · exact hfu
        · unfold cun; split
          · simp [RefOk]
          · exact hr
        · unfold cun; split
          · simp [Wf]
          · exact hwf
        · unfold cun; split
          · exact .inr (by simp [NoOwn])
          · exact hso
        · unfold cun; split
          · simp [men]
          · rename_i hm; simpa using hm
      · rename_i hroot
        have hroot' : rootable x = false := by simpa using hroot
        exact key Sc c rfl (fun _ => rfl) hokS (List.Sublist.refl _) (fun y hy => RefOk.rootable hx hroot' y (h.refs y hy)) h.refs h.wf h.sorted (fun _ _ _ h _ => h) rfl hc hfu hr hwf hso (RefOk.rootable hx hroot' c hr)

theorem Good.put {c : CV} (h : Good K w0 Z Sc (c :: L) a w) (dst : Option Nat) : Good K w0 Z (cput dst c Sc) L (a.put dst (val c)) w :=
  h.putG dst ((okL_append _ _).1 h.ok).2.1 (Fits.refl _) (h.nr c (by simp)).refOk (h.nr c (by simp)).wf (.inl (h.nr c (by simp)))

/-- A value without blocks may stand beside the frame. -/
theorem Good.add {c : CV} (h : Good K w0 Z Sc L a w) (hok : Ok w Z c) (hf : fp c = []) (hn : NR c) : Good K w0 Z Sc (c :: L) a w := by
  refine h.turn rfl (fun _ => rfl) ?_ ?_ h.refs h.wf h.sorted ?_
  · rw [okL_append]; have := (okL_append _ _).1 h.ok; exact ⟨this.1, hok, this.2⟩
  · simp only [fps_append, fps, hf, List.nil_append]; exact Fits.refl _
  · intro x hx
    rcases List.mem_cons.1 hx with rfl | hx
    · exact hn
    · exact h.nr x hx

/-- A value read off the frame (it owns nothing) goes into a slot. -/
theorem Good.putq {c : CV} (h : Good K w0 Z Sc L a w) (dst : Option Nat) (hr : RefOk Sc c) (hw : Wf c) (hok : Ok w Z c) (hs : NoOwn c) : Good K w0 Z (cput dst c Sc) L (a.put dst (val c)) w :=
  (h.add (c := .bool false) (by simp [Ok]) (by simp [fp]) (by simp [NR, Pl])).putG dst hok (by rw [hs.fp c hok]; simp only [fp]; exact Fits.refl _) hr hw (.inr hs)
end
end Go.Bv
