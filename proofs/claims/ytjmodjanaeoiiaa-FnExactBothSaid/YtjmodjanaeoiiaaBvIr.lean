/- Contracts of functions that turn what they are lent; their calls. Generic: no program. -/
import Derived.Test.YtjmodjanaeoiiaaBvIq
namespace Go.Bv
open Go Go.RowKit
set_option linter.unusedSimpArgs false
set_option linter.unusedVariables false

mutual
/-- May be lent: numbers, flags, texts, own lists, structs of these. -/
def lendA : AV → Bool
  | .bool _ | .int _ _ | .str _ => true
  | .lst o _ _ => o
  | .agg xs => lendAs xs
  | _ => false
def lendAs : List AV → Bool
  | [] => true
  | x :: xs => lendA x && lendAs xs
end
/-- No operation writes slot t. -/
def noDst (t : Nat) : Code → Bool
  | .region _ ops _ => ops.toList.all fun o => o.dst != some t
  | .seq x y => noDst t x && noDst t y
  | .cond _ x y => noDst t x && noDst t y
  | .block _ c => noDst t c
  | .loop c => noDst t c
  | _ => true
theorem frees_of {b : Nat → Prop} {t : Nat} {u : Value} {c : Code} : noDst t c = true → (Kp.mk b fun s => if s = t then some u else none).frees c := by
  induction c with
  | region id ops draw =>
    intro h
    simp only [noDst, List.all_eq_true, bne_iff_ne, ne_eq] at h
    intro o ho
    have := h o ho
    cases hd : o.dst with
    | none => trivial
    | some d => simp only [Kp.free]; rw [hd] at this; rw [if_neg (fun e => this (by rw [e]))]
  | seq x y ih1 ih2 => intro h; simp only [noDst, Bool.and_eq_true] at h; exact ⟨ih1 h.1, ih2 h.2⟩
  | cond v x y ih1 ih2 => intro h; simp only [noDst, Bool.and_eq_true] at h; exact ⟨ih1 h.1, ih2 h.2⟩
  | block id c ih => intro h; simp only [noDst] at h; exact ih h
  | loop c ih => intro h; simp only [noDst] at h; exact ih h
  | _ => intro _; trivial

/-- Function f, of these arguments by value, of which it is lent the t-th, returns r and gives v back. -/
def SoundM (P : Program) (f : Nat) (args : List AV) (t : Nat) (r v : AV) : Prop :=
  ∀ (w : World) (Z0 : Nat → Prop) (cs : List CV), ers cs = args → OkL w Z0 cs → (fps cs).Nodup → (∀ b ∈ fps cs, ¬ Z0 b) → (∀ b, (b ∈ fps cs ∨ Z0 b) → b < w.heap.size) → PlL cs →
    Calls P f (cs.map val).toArray w (fun e w' => ∃ c d x, e = .returned (val c) ∧ er c = r ∧ er d = v ∧ cs[t]? = some x ∧ val d = val x ∧ NR c ∧ Pl d ∧
      (∃ Z', (∀ b, Z0 b → Z' b) ∧ (∀ b, Z' b → (Z0 b ∨ w.heap.size ≤ b) ∧ b < w'.heap.size) ∧ OkL w' Z' [c, d] ∧ ∀ b ∈ fps [c, d], ¬ Z' b) ∧
      (fps [c, d]).Nodup ∧ (∀ b ∈ fps [c, d], (b ∈ fps cs ∨ w.heap.size ≤ b) ∧ b < w'.heap.size) ∧ (∀ b, b < w.heap.size → b ∉ fps cs → w'.heap[b]? = w.heap[b]?) ∧
      w.heap.size ≤ w'.heap.size ∧ w'.os = w.os ∧ w'.tape = w.tape ∧ w'.output = w.output)

/-- One result, or several. -/
def resV : List AV → AV
  | [x] => x
  | vs => .tup vs
def aresM (Γ : Tab) (rs : List ResultVar) (S : List AV) (t : Nat) : Option (AV × AV) :=
  match aresL Γ rs S with
  | some (vs, S2) => (match S2[t]? with
    | some v => some (resV vs, v)
    | none => none)
  | none => none
def endsM (Γ : Tab) (rs : List ResultVar) (t : Nat) (r v : AV) : Exit → List AV → Prop
  | .ret, S | .normal, S => aresM Γ rs S t = some (r, v)
  | _, _ => False
theorem ends_rM {Γ : Tab} {rs : List ResultVar} {t : Nat} {r v : AV} {S : List AV} (h : aresM Γ rs S t = some (r, v)) : endsM Γ rs t r v .ret S := h
theorem ends_nM {Γ : Tab} {rs : List ResultVar} {t : Nat} {r v : AV} {S : List AV} (h : aresM Γ rs S t = some (r, v)) : endsM Γ rs t r v .normal S := h

section
variable {K : Nat → Prop} {w0 : World} {Z : Nat → Prop} {Sc L : List CV} {a : Act} {w : World} {P : Program} {Γ : Tab}

theorem sound_bodyM (hT : TabOk P Γ) {f : Nat} {fn : Func} {c : Code} (hf : P.funcs[f]? = some fn) (hb : fn.body = some c) {args : List AV} {t : Nat} {r v : AV} (hno : noDst t c = true) (htl : t < args.length) (hpv : plA v = true)
    (hw : AW P c (frame args fn.ntmps) (endsM Γ fn.results.toList t r v)) : SoundM P f args t r v := by
  intro w Z0 cs hcs hok hnd hap hlt hpl
  subst hcs
  have hl : (ers cs).length = cs.length := by simp [ers_eq]
  rw [hl] at htl
  have hx : cs[t]? = some cs[t] := List.getElem?_eq_getElem htl
  refine calls_of_wp hf hb ?_
  have hA : At ⟨fun b => b < w.heap.size ∧ b ∉ fps cs, fun s => if s = t then some (val cs[t]) else none⟩ w Z0 (frame (ers cs) fn.ntmps) { tmps := (cs.map val).toArray ++ Array.replicate (fn.ntmps - (cs.map val).toArray.size) undef, defers := [] } w := by
    refine ⟨⟨Z0, cs ++ List.replicate (fn.ntmps - cs.length) (.undef undef), fun b h => h, fun b h => .inl h, by rw [ers_append, ers_undef, frame, hl], ?_⟩, fun s u hs => ?_⟩
    · have ef : fps ((cs ++ List.replicate (fn.ntmps - cs.length) (.undef undef)) ++ []) = fps cs := by simp [fps_append, fps_undef]
      refine { defers := rfl, size := by simp, tmps := fun t ht => ?_, ok := ?_, nodup := by rw [ef]; exact hnd, apart := by rw [ef]; exact hap, lt := fun b hb' => ?_, refs := fun x hx => ?_, wf := fun x hx => ?_, sorted := fun x hx => ?_, nr := by simp,
               kept := fun b hk => ⟨hk.1, by rw [ef]; exact hk.2, rfl⟩, os := rfl, tape := rfl, output := rfl, grew := Nat.le_refl _ }
      · simp only [Array.getElem?_append, List.size_toArray, List.length_map, List.getElem?_append]
        split
        · simp
        · rename_i hge
          have ht' : t < cs.length + (fn.ntmps - cs.length) := by simpa using ht
          simp only [List.getElem?_replicate, Array.getElem?_replicate]
          have : t - cs.length < fn.ntmps - cs.length := by omega
          simp [this, val, val1, flat]
      · rw [List.append_nil, okL_append]
        refine ⟨hok, (okL_iff _).2 fun x hx => ?_⟩
        rw [List.eq_of_mem_replicate hx]; simp [Ok]
      · rw [ef] at hb'; exact hlt b hb'
      · rcases List.mem_append.1 hx with hx | hx
        · exact Pl.refOk _ ((plL_iff _).1 hpl x hx)
        · rw [List.eq_of_mem_replicate hx]; simp [RefOk]
      · rcases List.mem_append.1 hx with hx | hx
        · exact Pl.wf _ ((plL_iff _).1 hpl x hx)
        · rw [List.eq_of_mem_replicate hx]; simp [Wf]
      · rcases List.mem_append.1 hx with hx | hx
        · exact .inl ((plL_iff _).1 hpl x hx).nr
        · rw [List.eq_of_mem_replicate hx]; exact .inr (by simp [NoOwn])
    · simp only at hs
      split at hs
      · rename_i e
        subst e
        simp only [Option.some.injEq] at hs
        rw [Array.getElem?_append_left (by simpa using htl)]
        simp [htl, hs]
      · cases hs
  have hfin : ∀ S' a' w', At ⟨fun b => b < w.heap.size ∧ b ∉ fps cs, fun s => if s = t then some (val cs[t]) else none⟩ w Z0 S' a' w' → aresM Γ fn.results.toList S' t = some (r, v) →
      a'.defers = [] ∧ ∃ u, (results fn a'.tmps).run P w' = .ok u w' ∧ ∃ c d x, Ending.returned u = .returned (val c) ∧ er c = r ∧ er d = v ∧ cs[t]? = some x ∧ val d = val x ∧ NR c ∧ Pl d ∧
      (∃ Z', (∀ b, Z0 b → Z' b) ∧ (∀ b, Z' b → (Z0 b ∨ w.heap.size ≤ b) ∧ b < w'.heap.size) ∧ OkL w' Z' [c, d] ∧ ∀ b ∈ fps [c, d], ¬ Z' b) ∧
      (fps [c, d]).Nodup ∧ (∀ b ∈ fps [c, d], (b ∈ fps cs ∨ w.heap.size ≤ b) ∧ b < w'.heap.size) ∧ (∀ b, b < w.heap.size → b ∉ fps cs → w'.heap[b]? = w.heap[b]?) ∧
      w.heap.size ≤ w'.heap.size ∧ w'.os = w.os ∧ w'.tape = w.tape ∧ w'.output = w.output := by
    intro S' a' w' hA' hr
    obtain ⟨⟨Z, Sc, z1, z2, rfl, hG⟩, hfx⟩ := hA'
    refine ⟨hG.defers, ?_⟩
    have hfx' : a'.tmps[t]? = some (val cs[t]) := hfx t _ (by simp)
    unfold aresM at hr
    cases hL : aresL Γ fn.results.toList (ers Sc) with
    | none => simp [hL] at hr
    | some q =>
      obtain ⟨vs, S2⟩ := q
      obtain ⟨ys, Sc', e1, e2, hG2, hpl2, hrun⟩ := aresL_good hT _ hG hL
      have hrr := run_results hrun
      rw [hL] at hr
      simp only at hr
      cases hS2 : S2[t]? with
      | none => simp [hS2] at hr
      | some v' =>
      simp only [hS2, Option.some.injEq, Prod.mk.injEq] at hr
      obtain ⟨hr, rfl⟩ := hr
      obtain ⟨d, hd, hdv⟩ : ∃ d, Sc'[t]? = some d ∧ er d = v' := by
        rw [← e2, ers_eq, List.getElem?_map] at hS2
        cases hq : Sc'[t]? with
        | none => simp [hq] at hS2
        | some d => simp only [hq, Option.map_some, Option.some.injEq] at hS2; exact ⟨d, rfl, hS2⟩
      have hpd : Pl d := pl_er d (by rw [hdv]; exact hpv)
      have hvd : val d = val cs[t] := by
        have hlt' : t < a'.tmps.size := (Array.getElem?_eq_some_iff.1 hfx').1
        have := hG2.tmps t hlt'
        rw [hfx', hd] at this
        simpa using this.symm
      have hmd : ∀ b ∈ fp d, b ∈ fps Sc' := fun b hb => mem_fps.2 ⟨d, List.mem_of_getElem? hd, hb⟩
      have hndd : (fp d).Nodup := by
        have := hG2.nodup
        rw [fps_append, fps_cut hd] at this
        exact (List.nodup_append.1 (List.nodup_append.1 (List.nodup_append.1 this).1).2.1).1
      have hdok : Ok w' Z d := ((okL_cut hd).1 ((okL_append _ _).1 hG2.ok).1).2.1
      have hokL : OkL w' Z ys := ((okL_append _ _).1 ((okL_append _ _).1 hG2.ok).2).1
      have key : ∀ c : CV, er c = resV vs → resVal (ys.map val1) = val c → NR c → fp c = fps ys → Ok w' Z c →
          ∃ u, (results fn a'.tmps).run P w' = .ok u w' ∧ ∃ c d x, Ending.returned u = .returned (val c) ∧ er c = r ∧ er d = v' ∧ cs[t]? = some x ∧ val d = val x ∧ NR c ∧ Pl d ∧
      (∃ Z', (∀ b, Z0 b → Z' b) ∧ (∀ b, Z' b → (Z0 b ∨ w.heap.size ≤ b) ∧ b < w'.heap.size) ∧ OkL w' Z' [c, d] ∧ ∀ b ∈ fps [c, d], ¬ Z' b) ∧
      (fps [c, d]).Nodup ∧ (∀ b ∈ fps [c, d], (b ∈ fps cs ∨ w.heap.size ≤ b) ∧ b < w'.heap.size) ∧ (∀ b, b < w.heap.size → b ∉ fps cs → w'.heap[b]? = w.heap[b]?) ∧
      w.heap.size ≤ w'.heap.size ∧ w'.os = w.os ∧ w'.tape = w.tape ∧ w'.output = w.output := by
        intro c hc hv hn hfc hkc
        have hall : ∀ b ∈ fps [c, d], b ∈ fps (Sc' ++ (ys ++ [])) := fun b hb => by
          simp only [fps, List.append_nil, List.mem_append, fps_append] at hb ⊢
          rcases hb with hb | hb
          · exact .inr (by rw [hfc] at hb; exact hb)
          · exact .inl (hmd b hb)
        refine ⟨_, hrr, c, d, cs[t], by rw [hv], by rw [hc, hr], hdv, hx, hvd, hn, hpd, ⟨Z, z1, fun b hb => ⟨z2 b hb, hG2.lt b (.inr hb)⟩, ?_, fun b hb => hG2.apart b (hall b hb)⟩, ?_, fun b hb => ⟨?_, hG2.lt b (.inl (hall b hb))⟩,
          fun b h1 h2 => (hG2.kept b ⟨h1, h2⟩).2.2, hG2.grew, hG2.os, hG2.tape, hG2.output⟩
        · simp only [OkL]; exact ⟨hkc, hdok, trivial⟩
        · simp only [fps, List.append_nil, hfc]
          have := hG2.nodup
          rw [List.append_nil, fps_append] at this
          have h2 := List.nodup_append.1 this
          rw [List.nodup_append]
          exact ⟨h2.2.1, hndd, fun u hu v hv e => h2.2.2 v (hmd v hv) u hu e.symm⟩
        · by_cases hk : b < w.heap.size
          · by_cases hm : b ∈ fps cs
            · exact .inl hm
            · exact absurd (hall b hb) (hG2.kept b ⟨hk, hm⟩).2.1
          · exact .inr (by omega)
      by_cases h1 : ∃ y, ys = [y]
      · obtain ⟨y, rfl⟩ := h1
        have hply : Pl y := by simpa [PlL] using hpl2
        refine key y ?_ ?_ hply.nr (by simp [fps]) (by simpa [OkL] using hokL)
        · rw [← e1]; simp [ers, resV]
        · simp [resVal, val_of_val1 hply.not_tup]
      · refine key (.tup ys) ?_ ?_ ?_ (by simp [fp]) (by simpa [Ok] using hokL)
        · match vs, ys, e1, h1 with
          | [], [], _, _ => simp [er, ers, resV]
          | [_], [y], _, h1 => exact absurd ⟨y, rfl⟩ h1
          | u1 :: u2 :: us, y1 :: y2 :: zs, e1, _ => simp only [er, resV]; rw [e1]
        · have : resVal (ys.map val1) = Value.tuple (ys.map val1).toArray := by
            match ys, h1 with
            | [], _ => rfl
            | [y], h1 => exact absurd ⟨y, rfl⟩ h1
            | _ :: _ :: _, _ => rfl
          rw [this]; simp [val]
        · simp only [NR]
          intro u hu
          exact .inr ((plL_iff _).1 hpl2 u hu)
  refine wp_mono (hw _ _ _ _ _ (frees_of hno) hA) fun e a' w' ⟨S', q, hS'⟩ => ?_
  cases e with
  | normal => exact hfin S' a' w' hS' q
  | ret => exact hfin S' a' w' hS' q
  | _ => exact q.elim

mutual
theorem flat_lent {r : Nat} {x0 : CV} (hx : Sc[r]? = some x0) : ∀ (y u : CV) (p : List Nat) (l : Option Addr), lendA (er y) = true → er u = aview r p (er y) → RefOk Sc u → cgetN (rootC x0).1 (rootC x0).2 p = some (y, l) → flat u = flat y
  | .lst o s A c xs, u, p, l, hl, he, hr, hg => by
    simp only [er, lendA] at hl
    subst hl
    simp only [er, aview] at he
    obtain ⟨v, rfl⟩ := er_ref he
    simp only [RefOk] at hr
    obtain ⟨x1, s1, A1, c1, xs1, l1, h1, _, h3, h4, A', c', rfl, _, rfl, _, h5, _⟩ := hr
    rw [hx] at h1; cases h1
    rw [hg] at h3
    simp only [Option.some.injEq, Prod.mk.injEq, CV.lst.injEq, true_and] at h3
    obtain ⟨⟨rfl, rfl, rfl, rfl⟩, _⟩ := h3
    simp [flat, h5 rfl, ers_eq]
  | .agg xs, u, p, l, hl, he, hr, hg => by
    simp only [er, lendA] at hl
    simp only [er, aview] at he
    obtain ⟨us, rfl, hus⟩ := er_agg he
    simp only [RefOk] at hr
    simp only [flat]
    exact flats_lent hx xs us p 0 hl hus hr (fun j y hj => by rw [get_in p _ _ _ _ l hg]; exact ⟨_, by simp [cgetN, hj]; rfl⟩)
  | .bool _, u, p, l, hl, he, _, _ | .int _ _, u, p, l, hl, he, _, _ | .str _, u, p, l, hl, he, _, _ => by
    cases u <;> simp_all [er, aview, flat]
  | .undef _, u, p, l, hl, he, _, _ | .tup _, u, p, l, hl, he, _, _ | .fn _ _, u, p, l, hl, he, _, _ | .ip _ _, u, p, l, hl, he, _, _ | .at _ _ _, u, p, l, hl, he, _, _ | .ref _ _ _ _ _, u, p, l, hl, he, _, _ | .box _ _ _, u, p, l, hl, he, _, _ => by
    simp [er, lendA] at hl
theorem flats_lent {r : Nat} {x0 : CV} (hx : Sc[r]? = some x0) : ∀ (ys us : List CV) (p : List Nat) (i : Nat), lendAs (ers ys) = true → ers us = aviews r p i (ers ys) → RefOkL Sc us →
    (∀ (j : Nat) y, ys[j]? = some y → ∃ l, cgetN (rootC x0).1 (rootC x0).2 (p ++ [i + j]) = some (y, l)) → flats us = flats ys
  | [], us, p, i, _, he, _, _ => by
    cases us <;> simp [ers, aviews] at he ⊢
  | y :: ys, us, p, i, hl, he, hr, hg => by
    cases us with
    | nil => simp [ers, aviews] at he
    | cons u us =>
      simp only [ers, lendAs, Bool.and_eq_true] at hl
      simp only [ers, aviews, List.cons.injEq] at he
      simp only [RefOkL] at hr
      obtain ⟨l, hl0⟩ := hg 0 y rfl
      simp only [flats]
      rw [flat_lent hx y u (p ++ [i]) l hl.1 he.1 hr.1 (by simpa using hl0), flats_lent hx ys us p (i + 1) hl.2 he.2 hr.2 (fun j z hj => by
        obtain ⟨l, hl⟩ := hg (j + 1) z (by simpa using hj)
        exact ⟨l, by rw [show i + 1 + j = i + (j + 1) by omega]; exact hl⟩)]
end
theorem flat_of_val {x y : CV} (hx : Pl x) (hy : Pl y) (ha : (∃ xs, x = .agg xs) ↔ (∃ ys, y = .agg ys)) (h : val x = val y) : flat x = flat y := by
  by_cases hag : ∃ xs, x = .agg xs
  · obtain ⟨xs, rfl⟩ := hag
    obtain ⟨ys, rfl⟩ := ha.1 ⟨xs, rfl⟩
    simp only [val, val1, Value.agg.injEq] at h
    simp only [flat]
    have := congrArg Array.toList h
    simpa using this
  · have hb : ¬ ∃ ys, y = .agg ys := fun h => hag (ha.2 h)
    rw [flat_one (fun xs e => hag ⟨xs, e⟩), flat_one (fun ys e => hb ⟨ys, e⟩)]
    rw [val_of_val1 hx.not_tup, val_of_val1 hy.not_tup] at h
    rw [h]
theorem sk_agg {x y : CV} (h : skA (er x) (er y) = true) : (∃ xs, x = .agg xs) ↔ (∃ ys, y = .agg ys) := by
  cases x <;> cases y <;> simp_all [er, skA]

theorem view_aggIff {r : Nat} {p : List Nat} {u y : CV} (hl : lendA (er y) = true) (h : er u = aview r p (er y)) : (∃ xs, y = .agg xs) ↔ (∃ us, u = .agg us) := by
  cases y with
  | lst o s A c xs =>
    cases o
    · simp [er, lendA] at hl
    · simp only [er, aview] at h
      obtain ⟨v, rfl⟩ := er_ref h
      simp
  | agg xs =>
    simp only [er, aview] at h
    obtain ⟨us, rfl, _⟩ := er_agg h
    simp
  | bool b => cases u <;> simp_all [er, aview]
  | int k n => cases u <;> simp_all [er, aview]
  | str s => cases u <;> simp_all [er, aview]
  | _ => simp [er, lendA] at hl
/-- A call that is lent a place. -/
theorem call_lend {o : Oper} {f : Nat} {args : Array Operand} {ats : Array TypeId} (ho : o.op = .call { callee := .value (.func f), args, argTypes := ats }) (hf : ∀ vs w, (callFunc f vs).run P w = .ok (.enter f vs) w)
    {S vs : List AV} (hvs : ards S args.toList = some vs) {t r : Nat} {p : List Nat} {x0 y v rv : AV} (ht : vs[t]? = some (aview r p y)) (hx : S[r]? = some x0) (hp : plA (rootA x0) = true) (hy : aget S r p = some y) (hly : lendA y = true)
    (hpl : plAs (vs.set t y) = true) (hS : SoundM P f (vs.set t y) t rv v) (hsk : skA y v = true) : AO P o S (aput o.dst rv (aback S r p y v)) := ao_of fun K w0 Z0 a w ⟨Z, Sc, z1, z2, hSc, hG⟩ Q => by
  subst hSc
  obtain ⟨cs, rfl, h2, h3⟩ := ards_sound hG _ _ hvs
  have hfp : fps cs = [] := by
    clear hvs ht hpl hS h2
    induction cs with
    | nil => rfl
    | cons c cs ih => simp [fps, (h3 c (by simp)).1.fp, ih (fun c hc => h3 c (by simp [hc]))]
  obtain ⟨x0c, hxc, rfl⟩ : ∃ x0c, Sc[r]? = some x0c ∧ er x0c = x0 := by
    rw [ers_eq, List.getElem?_map] at hx
    cases hq : Sc[r]? with
    | none => simp [hq] at hx
    | some q => simp only [hq, Option.map_some, Option.some.injEq] at hx; exact ⟨q, rfl, hx⟩
  have hproot : Pl (rootC x0c).1 := pl_er _ (by rw [er_root]; exact hp)
  obtain ⟨yc, l, hg, rfl⟩ : ∃ yc l, cgetN (rootC x0c).1 (rootC x0c).2 p = some (yc, l) ∧ er yc = y := by
    unfold aget at hy
    rw [hx] at hy
    simp only at hy
    rw [← er_root] at hy
    exact er_get' p _ _ _ hy
  obtain ⟨u, hu, hue⟩ : ∃ u, cs[t]? = some u ∧ er u = aview r p (er yc) := by
    rw [ers_eq, List.getElem?_map] at ht
    cases hq : cs[t]? with
    | none => simp [hq] at ht
    | some q => simp only [hq, Option.map_some, Option.some.injEq] at ht; exact ⟨q, rfl, ht⟩
  have hum := List.mem_of_getElem? hu
  have hflu := flat_lent hxc yc u p l hly hue (h3 u hum).1.refOk hg
  have hply : Pl yc := Pl.get p _ _ _ l hg hproot
  have hokx := ((okL_cut hxc).1 ((okL_append _ _).1 hG.ok).1).2.1
  have hoky : Ok w Z yc := ok_get p _ _ _ l hg (ok_root hokx).1
  have hnu : ∀ xs, u ≠ .tup xs := (h3 u hum).2
  have hvu : val yc = val u := by
    exact val_of_flat hply.not_tup hnu (view_aggIff hly hue) hflu.symm
  -- the arguments, the lent one by its own value
  have hcs' : (cs.set t yc).map val = args.toList.map a.eval := by
    rw [List.map_set, hvu, ← h2]
    apply List.ext_getElem?
    intro j
    rw [List.getElem?_set]
    split
    · rename_i e; subst e
      rw [List.length_map]
      split
      · simp [hu]
      · rename_i hn; rw [List.getElem?_eq_none (by simpa using hn)] ; 
    · rfl
  have htl : t < cs.length := (List.getElem?_eq_some_iff.1 hu).1
  have hfp' : ∀ b, b ∈ fps (cs.set t yc) → b ∈ fp yc := fun b hb => by
    have := (fps_set cs t yc).sub b hb
    simpa [hfp] using this
  have hfpn : (fps (cs.set t yc)).Nodup := by
    refine (fps_set cs t yc).nodup ?_
    rw [hfp, List.append_nil]
    have hn := hG.nodup
    obtain ⟨L1, R1, hf1, _⟩ := fp_set p _ _ yc l hg
    have hn2 : (fp x0c).Nodup := by
      rw [List.append_nil, fps_cut hxc] at hn
      exact (List.nodup_append.1 (List.nodup_append.1 hn).2.1).1
    have hn3 : (fp (rootC x0c).1).Nodup := by
      cases x0c <;> simp_all [rootC, fp]
    rw [hf1] at hn3
    exact (List.nodup_append.1 (List.nodup_append.1 hn3).1).2.1
  have hyS : ∀ b ∈ fp yc, b ∈ fps (Sc ++ []) := fun b hb => by
    rw [List.append_nil]
    refine mem_fps.2 ⟨x0c, List.mem_of_getElem? hxc, ?_⟩
    obtain ⟨L1, R1, hf1, _⟩ := fp_set p _ _ yc l hg
    have : b ∈ fp (rootC x0c).1 := by rw [hf1]; simp [hb]
    cases x0c <;> simp_all [rootC, fp]
  have hokcs : OkL w Z (cs.set t yc) := by
    rw [okL_set hu]
    have := (okL_cut hu).1 ((okL_iff _).2 fun c hc => (h3 c hc).1.ok)
    exact ⟨this.1, hoky, this.2.2⟩
  have herr : ers (cs.set t yc) = (ers cs).set t (er yc) := ers_set _ _ _
  unfold Oper.wp
  rw [run_call ho hf]
  simp only [Oper.upon]
  have hcall := hS w Z (cs.set t yc) herr hokcs hfpn (fun b hb => hG.apart b (hyS b (hfp' b hb))) (fun b hb => hG.lt b (hb.imp (fun hb => hyS b (hfp' b hb)) id)) (plL_er _ (by rw [herr]; exact hpl))
  have ha : args.map a.eval = ((cs.set t yc).map val).toArray := by rw [hcs']; apply Array.ext'; simp
  rw [ha]
  refine Calls.mono hcall fun e w' ⟨c, d, x, he, hc, hd, hxx, hvd, hnc, hpd, ⟨Z', y1, y2, y3, y4⟩, hndc, hown, hsame, hgr, hos, htp, hout⟩ => ?_
  subst he
  subst hd
  rw [List.getElem?_set_self htl] at hxx
  simp only [Option.some.injEq] at hxx
  subst hxx
  have hagg := sk_agg hsk
  have hfl : flat d = flat yc := flat_of_val hpd hply hagg.symm hvd
  have hG2 := hG.lend hxc hproot hg y1 y2 y3 y4 hnc hpd hndc (fun b hb => ⟨((hown b hb).1).imp (hfp' b) id, (hown b hb).2⟩) (fun b h1 h2 => hsame b h1 (fun hm => h2 (hfp' b hm))) hgr hos htp hout hfl hsk hagg
  refine ⟨Z', cput o.dst c (cback Sc r p (er yc) x0c d), fun b hb => y1 b (z1 b hb), fun b hb => ?_, by rw [er_cput, er_cback hxc, hc], hG2.put o.dst⟩
  rcases (y2 b hb).1 with h | h
  · exact z2 b h
  · exact .inr (Nat.le_trans hG.grew h)
theorem al_lend {ops : Array Oper} {l : List Oper} {N : List AV → Prop} {o : Oper} {f : Nat} {args : Array Operand} {ats : Array TypeId} {S vs S' : List AV} {r : Nat} {p : List Nat} (t : Nat) {x0 y v rv : AV} (hgd : gchk ops S o = some true)
    (ho : o.op = .call { callee := .value (.func f), args, argTypes := ats }) (hf : ∀ vs w, (callFunc f vs).run P w = .ok (.enter f vs) w)
    (hvs : ards S args.toList = some vs) (ht : vs[t]? = some (aview r p y)) (hx : S[r]? = some x0) (hp : plA (rootA x0) = true) (hy : aget S r p = some y) (hly : lendA y = true)
    (hpl : plAs (vs.set t y) = true) (hS : SoundM P f (vs.set t y) t rv v) (hsk : skA y v = true) (hp' : aput o.dst rv (aback S r p y v) = S') (h : AL P false ops l S' N) : AL P false ops (o :: l) S N := by
  subst hp'
  exact al_op hgd (call_lend ho hf hvs ht hx hp hy hly hpl hS hsk) h
end
end Go.Bv
