/- Rules for by-value frames, generic, no program. -/
import Derived.Test.YtffpfjnakhpheaaDoorBvM2
import Derived.WalkKit
import Derived.ProofKit
import Derived.OpenShut
import Derived.ChangeOld
import Derived.HandedShaped
import Derived.Shelf.Vars
import Derived.ChangeArms
import Derived.DeepKeys4
import Derived.Carry
/-! A law's row: its arguments are opened as values, its answer is shut. -/
namespace Go.Bv
open Go Go.RowKit Go.ChangeShapes Go.WideShapes
set_option linter.unusedSimpArgs false
set_option linter.unusedVariables false

/-- A value of type t. -/
inductive Ty (P : Program) : Nat → AV → Prop where
  | bool {t b} : P.underlying t = some .bool → Ty P t (.bool b)
  | int {t k n} : P.underlying t = some (.int k) → (Lit.int k n).wf = true → Ty P t (.int k n)
  | str {t s} : P.underlying t = some .string → s.size ≤ reachBytes → Ty P t (.str s)
  | lst {t e xs} : P.underlying t = some (.slice e) → xs.length ≤ reachBytes → (∀ x ∈ xs, Ty P e x) → Ty P t (.lst false (P.cellsOf e) xs)
  | agg {t F xs} : P.underlying t = some (.struct F) → xs.length = F.size → (∀ (i : Nat) (f : Field) (x : AV), F[i]? = some f → xs[i]? = some x → Ty P f.type x) → Ty P t (.agg xs)

/-- Types whose values are plain: numbers, flags, texts, lists and structs of these. -/
def byv (P : Program) : Nat → Nat → Bool
  | 0, _ => false
  | n + 1, t => match P.underlying t with
    | some (.int _) | some .bool | some .string => true
    | some (.slice e) => P.cellsOf e != 0 && P.bytesOf e != 0 && byv P n e
    | some (.struct F) => F.toList.all fun f => byv P n f.type
    | _ => false
theorem byv_slice {P : Program} {n t e : Nat} (hu : P.underlying t = some (.slice e)) (h : byv P (n + 1) t = true) : P.cellsOf e ≠ 0 ∧ P.bytesOf e ≠ 0 ∧ byv P n e = true := by
  simpa [byv, hu, and_assoc] using h
theorem byv_struct {P : Program} {n t : Nat} {F : Array Field} (hu : P.underlying t = some (.struct F)) (h : byv P (n + 1) t = true) : ∀ f ∈ F.toList, byv P n f.type = true := by
  have := h; simp only [byv, hu, List.all_eq_true] at this; exact this

section
variable {H : Type} {enc : TypeId × Value → H} {P : Program} {w : World}

/-- What a value of plain type is opened as. -/
def Opn (P : Program) (w : World) (t : Nat) (cs : List Value) (c : CV) : Prop :=
  flat c = cs ∧ Ok w (below w) c ∧ fp c = [] ∧ Pl c ∧ Ty P t (er c) ∧ ((∀ F, P.underlying t ≠ some (.struct F)) → ∃ v, cs = [v])

theorem fine_of (hl : laidOutB P = true) {t : Nat} (h : isVar P t = true) : rowFine P t = true := by
  simp only [isVar, Bool.and_eq_true, decide_eq_true_eq] at h
  exact rowFine_of_laidOut hl h.1
theorem fine_slice (hl : laidOutB P = true) {t e : Nat} (h : isVar P t = true) (hu : P.underlying t = some (.slice e)) : isVar P e = true := by
  have := fine_of hl h
  simp only [rowFine, h, hu, Bool.not_true, Bool.false_or, Bool.and_eq_true] at this
  exact this.1
theorem fine_struct (hl : laidOutB P = true) {t : Nat} {F : Array Field} (h : isVar P t = true) (hu : P.underlying t = some (.struct F)) :
    (∀ f ∈ F.toList, isVar P f.type = true) ∧ P.cellsOf t = (F.toList.map fun f => P.cellsOf f.type).sum ∧ ∀ (j : Nat) (f : Field), F.toList[j]? = some f → f.offset = ((F.toList.take j).map fun f => P.cellsOf f.type).sum := by
  have := fine_of hl h
  simp only [rowFine, h, hu, Bool.not_true, Bool.false_or, Bool.and_eq_true, beq_iff_eq, List.all_eq_true, List.mem_range] at this
  obtain ⟨⟨h1, h2⟩, h3⟩ := this
  refine ⟨h1, h2, fun j f hj => ?_⟩
  have hj' := (List.getElem?_eq_some_iff.1 hj).1
  have := h3 j hj'
  rw [hj] at this
  simpa using this

theorem open_fields : ∀ (fs : List Field) (base : Nat) (cs : List Value),
    (∀ (j : Nat) (f : Field), fs[j]? = some f → f.offset = base + ((fs.take j).map fun f => P.cellsOf f.type).sum) →
    (∀ f ∈ fs, ∃ c, Opn P w f.type ((cs.drop f.offset).take (P.cellsOf f.type)) c) →
    cs.length = base + (fs.map fun f => P.cellsOf f.type).sum →
    ∃ xs : List CV, xs.length = fs.length ∧ flats xs = cs.drop base ∧ OkL w (below w) xs ∧ fps xs = [] ∧ PlL xs ∧ ∀ (i : Nat) (f : Field) (x : CV), fs[i]? = some f → xs[i]? = some x → Ty P f.type (er x)
  | [], base, cs, _, _, hl => ⟨[], rfl, by simp at hl; simp [flats, hl], by simp [OkL], rfl, by simp [PlL], by simp⟩
  | f :: fs, base, cs, ho, hc, hl => by
    have h0 := ho 0 f rfl
    simp only [List.take_zero, List.map_nil, List.sum_nil, Nat.add_zero] at h0
    obtain ⟨c, e1, e2, e3, e4, e5, _⟩ := hc f (by simp)
    simp only [List.map_cons, List.sum_cons] at hl
    obtain ⟨xs, a1, a2, a3, a4, a5, a6⟩ := open_fields fs (base + P.cellsOf f.type) cs (fun j g hg => by
      have := ho (j + 1) g (by simpa using hg)
      simp only [List.take_succ_cons, List.map_cons, List.sum_cons] at this
      omega) (fun g hg => hc g (by simp [hg])) (by omega)
    refine ⟨c :: xs, by simp [a1], ?_, by simp [OkL, e2, a3], by simp [fps, e3, a4], by simp [PlL, e4, a5], ?_⟩
    · simp only [flats, e1, a2, h0]
      rw [← List.drop_drop, List.take_append_drop]
    · intro i g x hg hx
      cases i with
      | zero => simp only [List.getElem?_cons_zero, Option.some.injEq] at hg hx; subst hg; subst hx; exact e5
      | succ i => exact a6 i g x (by simpa using hg) (by simpa using hx)

theorem open_elems {a : Addr} {s : Nat} {e : Nat} : ∀ (n : Nat), (∀ i, i < n → ∃ cs c, cs.length = s ∧ (∀ (j : Nat) (v : Value), cs[j]? = some v → w.cell? ((a.add (i * s)).add j) = some v) ∧ Opn P w e cs c) →
    ∃ xs : List CV, xs.length = n ∧ (∀ (i : Nat) (x : CV), xs[i]? = some x → (flat x).length = s ∧ CellsAt w (a.add (i * s)) (flat x) ∧ Ok w (below w) x ∧ fp x = [] ∧ Pl x ∧ Ty P e (er x))
  | 0, _ => ⟨[], rfl, by simp⟩
  | n + 1, h => by
    obtain ⟨xs, h1, h2⟩ := open_elems n (fun i hi => h i (by omega))
    obtain ⟨cs, c, c1, c2, c3, c4, c5, c6, c7, _⟩ := h n (by omega)
    refine ⟨xs ++ [c], by simp [h1], fun i x hx => ?_⟩
    by_cases hi : i < n
    · exact h2 i x (by rw [List.getElem?_append_left (by omega)] at hx; exact hx)
    · have hin : i < n + 1 := by have := (List.getElem?_eq_some_iff.1 hx).1; simp [h1] at this; omega
      have : i = n := by omega
      subst this
      rw [List.getElem?_append_right (by omega)] at hx
      simp only [h1, Nat.sub_self, List.getElem?_cons_zero, Option.some.injEq] at hx
      subst hx
      exact ⟨by rw [c3, c1], by rw [c3]; exact c2, c4, c5, c6, c7⟩
theorem cells_of_elems {a : Addr} {s : Nat} (ha : a.spot = none) : ∀ (xs : List CV) (k : Nat), (∀ (i : Nat) (x : CV), xs[i]? = some x → (flat x).length = s ∧ CellsAt w (a.add ((k + i) * s)) (flat x)) → CellsAt w (a.add (k * s)) (flats xs)
  | [], _, _ => by intro j v hj; simp [flats] at hj
  | x :: xs, k, h => by
    have h0 := h 0 x rfl
    simp only [Nat.add_zero] at h0
    simp only [flats]
    have hs : (a.add (k * s)).spot = none := by rw [add_eq ha]
    rw [cellsAt_append hs]
    refine ⟨h0.2, ?_⟩
    have := cells_of_elems ha xs (k + 1) (fun i y hy => by
      have := h (i + 1) y (by simpa using hy)
      rw [show k + 1 + i = k + (i + 1) by omega]
      exact this)
    rw [h0.1]
    have e : (a.add (k * s)).add s = a.add ((k + 1) * s) := by
      rw [add_eq ha, add_eq (by rfl), add_eq ha]
      simp only [Addr.mk.injEq, and_true, true_and]
      rw [Nat.add_mul, Nat.one_mul, Nat.add_assoc]
    rw [e]; exact this

theorem weightsAll_mem {e : TypeId} : ∀ {l : List (DataW H)} {d : DataW H}, d ∈ l → ∀ n ∈ d.weights P e, n ∈ DataW.weightsAll P e l
  | d0 :: l, d, hd, n, hn => by
    simp only [DataW.weightsAll, List.mem_append]
    rcases List.mem_cons.1 hd with rfl | hd
    · exact .inl hn
    · exact .inr (weightsAll_mem hd n hn)

theorem trod_open (hl : laidOutB P = true) : ∀ (n : Nat) (fuel : Nat) (t : Nat) (cs : List Value) (x : DataW H × List MemPlace), byv P n t = true → isVar P t = true → DataW.trod enc P w 0 (fun _ => true) true fuel t cs = some x → (∀ n ∈ x.1.weights P t, n ≤ reachBytes) → ∃ c, Opn P w t cs c
  | 0, _, _, _, _, h, _, _, _ => by simp [byv] at h
  | n + 1, fuel, t, cs, x, hb, hv, h, hwt => by
    cases hu : P.underlying t with
    | none => simp [byv, hu] at hb
    | some d =>
      cases d <;> try (simp [byv, hu] at hb; done)
      case bool =>
        obtain ⟨b, rfl, _⟩ := DataW.trod_bool hu h
        exact ⟨.bool b, rfl, by simp [Ok], rfl, by simp [Pl], .bool hu, fun _ => ⟨_, rfl⟩⟩
      case int k =>
        obtain ⟨m, rfl, _, hw⟩ := DataW.trod_int hu h
        exact ⟨.int k m, rfl, by simp [Ok], rfl, by simp [Pl], .int hu hw, fun _ => ⟨_, rfl⟩⟩
      case string =>
        obtain ⟨s, rfl, rfl, _⟩ := DataW.trod_string hu h
        have hs : s.size ≤ reachBytes := by have := hwt s.data.toList.length (by simp [DataW.weights]); simpa using this
        exact ⟨.str s, rfl, by simp [Ok], rfl, by simp [Pl], .str hu hs, fun _ => ⟨_, rfl⟩⟩
      case slice e =>
        obtain ⟨hz, hbz, hbe⟩ := byv_slice hu hb
        have hve := fine_slice hl hv hu
        rcases DataW.trod_slice hu h with ⟨rfl, _⟩ | ⟨a, len, cap, elems, rest, m, _, rfl, rfl, _, hlc, hm, hlen, hel, _⟩
        · refine ⟨.lst false (P.cellsOf e) none 0 [], rfl, ?_, by simp [fp, fps], by simp [Pl, PlL], .lst hu (by simp [ers]) (by simp [ers]), fun _ => ⟨_, rfl⟩⟩
          simp [Ok, HdrOk, OkL, fps]
        · have hnr : len ≤ reachBytes := by
            have := hwt (((elems.map (·.1)).length + (rest.map (·.1)).length) * P.bytesOf e) (by simp [DataW.weights, hu])
            have h2 : len * 1 ≤ ((elems.map (·.1)).length + (rest.map (·.1)).length) * P.bytesOf e := Nat.mul_le_mul (by simp; omega) (by omega)
            omega
          have hwe : ∀ i (hi : i < elems.length), ∀ n ∈ elems[i].1.weights P e, n ≤ reachBytes := fun i hi n hn => by
            refine hwt n ?_
            simp only [DataW.weights, hu, List.mem_cons, List.mem_append]
            exact .inr (.inl (weightsAll_mem (List.mem_map.2 ⟨elems[i], List.getElem_mem hi, rfl⟩) n hn))
          obtain ⟨xs, x1, x2⟩ := open_elems (P := P) (w := w) (a := a) (s := P.cellsOf e) (e := e) len (fun i hi => by
            have := hel i hi
            have hi' : i < elems.length := by omega
            rw [List.getElem?_eq_getElem hi'] at this
            cases hc : w.cells? 0 (a.add (i * P.cellsOf e)) (P.cellsOf e) with
            | none => simp [hc] at this
            | some cs' =>
              simp only [hc, Option.bind_some] at this
              obtain ⟨_, l1, l2⟩ := World.cells?_some hc
              obtain ⟨c, hc'⟩ := trod_open hl n m e cs' _ hbe hve this (hwe i hi')
              exact ⟨cs', c, l1, fun j v hj => by rw [l2 j (by rw [← l1]; exact (List.getElem?_eq_some_iff.1 hj).1)]; exact hj, hc'⟩)
          subst x1
          have hall : ∀ x ∈ xs, (flat x).length = P.cellsOf e ∧ Ok w (below w) x ∧ fp x = [] ∧ Pl x ∧ Ty P e (er x) := fun x hx => by
            obtain ⟨i, hi⟩ := List.mem_iff_getElem?.1 hx
            have := x2 i x hi
            exact ⟨this.1, this.2.2⟩
          have hfps : fps xs = [] := by
            cases h : fps xs with
            | nil => rfl
            | cons b bs =>
              obtain ⟨x, hx, hb⟩ := mem_fps.1 (show b ∈ fps xs by simp [h])
              rw [(hall x hx).2.2.1] at hb; simp at hb
          refine ⟨.lst false (P.cellsOf e) (some a) cap xs, rfl, ?_, by simp [fp, hfps], ?_, .lst hu (by simp [ers_eq]; omega) ?_, fun _ => ⟨_, rfl⟩⟩
          · simp only [Ok]
            refine ⟨⟨hlc, ?_, by simp⟩, fun x hx => (hall x hx).1, fun _ => hfps, (okL_iff _).2 fun x hx => (hall x hx).2.1⟩
            cases xs with
            | nil => exact .inl rfl
            | cons x0 xs0 =>
              right
              have h0 := x2 0 x0 rfl
              have hne : (flat x0)[0]? ≠ none := by simp; intro h; have := h0.1; rw [h] at this; exact hz this.symm
              obtain ⟨v0, hv0⟩ := Option.ne_none_iff_exists'.1 hne
              have hc0 := h0.2.1 0 v0 hv0
              rw [Nat.zero_mul] at hc0
              have hsp : ((a.add 0).add 0).spot = none := World.cell?_spot hc0
              have ha : a.spot = none := by
                cases hs : a.spot with
                | none => rfl
                | some q => simp [Addr.add, hs] at hsp
              refine ⟨a, rfl, ha, ?_, fun _ => ?_⟩
              · have := cells_of_elems ha (x0 :: xs0) 0 (s := P.cellsOf e) (w := w) (fun i y hy => by have := x2 i y hy; rw [Nat.zero_add]; exact ⟨this.1, this.2.1⟩)
                rw [Nat.zero_mul] at this
                rw [show a.add 0 = a by rw [add_eq ha]; cases a; simp_all] at this
                exact this
              · rw [add_eq ha, add_eq (by rfl)] at hc0
                unfold World.cell? at hc0
                show a.block < w.heap.size
                by_cases hlt : a.block < w.heap.size
                · exact hlt
                · rw [Array.getElem?_eq_none (by simpa using hlt)] at hc0; simp at hc0
          · simp only [Pl]; exact (plL_iff _).2 fun x hx => (hall x hx).2.2.2.1
          · intro y hy
            rw [ers_eq] at hy
            obtain ⟨x, hx, rfl⟩ := List.mem_map.1 hy
            exact (hall x hx).2.2.2.2
      case struct F =>
        obtain ⟨xs, m, _, rfl, hlen, hxl, hx⟩ := DataW.trod_struct hu h
        obtain ⟨hv1, hv2, hv3⟩ := fine_struct hl hv hu
        have hbf := byv_struct hu hb
        obtain ⟨ys, y1, y2, y3, y4, y5, y6⟩ := open_fields (P := P) (w := w) F.toList 0 cs (fun j f hj => by rw [hv3 j f hj]; omega) (fun f hf => by
          obtain ⟨i, hi⟩ := List.mem_iff_getElem?.1 hf
          have hi2 : F[i]? = some f := by simpa using hi
          have hil : i < F.size := (Array.getElem?_eq_some_iff.1 hi2).1
          have := hx i f hi2
          rw [List.getElem?_eq_getElem (by omega)] at this
          exact trod_open hl n m f.type _ _ (hbf f hf) (hv1 f hf) this (fun k hk => hwt k (by
            simp only [DataW.weights, hu]
            exact DataW.weights_mem_each (j := i) (t := f.type) (d := (xs[i]'(by omega)).1) (by simp [hi]) (by simp [List.getElem?_eq_getElem (show i < xs.length by omega)]) k hk))) (by rw [hlen, hv2]; omega)
        refine ⟨.agg ys, by simpa [flat] using y2, by simpa [Ok] using y3, by simpa [fp] using y4, by simpa [Pl] using y5, .agg hu (by simp [ers_eq, y1]) ?_, fun hn => absurd hu (hn F)⟩
        · intro i f x hf hx'
          simp only [ers_eq, List.getElem?_map] at hx'
          cases hy : ys[i]? with
          | none => simp [hy] at hx'
          | some y => simp only [hy, Option.map_some, Option.some.injEq] at hx'; subst hx'; exact y6 i f y (by simpa using hf) hy

theorem open_arg (hl : laidOutB P = true) {n t : Nat} {v : Value} {d : DataW H} {p : List MemPlace} {r : Reach} {b0 : Nat} (hb : byv P n t = true) (hv : isVar P t = true) (hw : Value.okWide P w r b0 t v)
    (h : DataW.Trod enc P w 0 (fun _ => true) true t v d p) (hwt : ∀ n ∈ d.weights P t, n ≤ reachBytes) : ∃ c, val c = v ∧ Ok w (below w) c ∧ fp c = [] ∧ Pl c ∧ Ty P t (er c) := by
  obtain ⟨fuel, h⟩ := h
  obtain ⟨c, c1, c2, c3, c4, c5, c6⟩ := trod_open hl n fuel t _ _ hb hv h hwt
  refine ⟨c, ?_, c2, c3, c4, c5⟩
  generalize he : er c = x at c5
  cases c5 with
  | bool hu =>
    obtain ⟨b, rfl⟩ := okWide_bool hu hw
    cases c <;> simp_all [er, flat, val, val1, Value.cells]
  | int hu _ =>
    obtain ⟨b, rfl⟩ := okWide_int hu hw
    cases c <;> simp_all [er, flat, val, val1, Value.cells]
  | str hu _ =>
    obtain ⟨b, rfl⟩ := okWide_string hu hw
    cases c <;> simp_all [er, flat, val, val1, Value.cells]
  | lst hu _ _ =>
    obtain ⟨a, l, k, rfl⟩ := okWide_slice hu hw
    cases c <;> simp_all [er, flat, val, val1, Value.cells]
  | agg hu _ _ =>
    obtain ⟨cs, rfl, _⟩ := okWide_struct hu hw
    cases c <;> simp_all [er, flat, val, val1, Value.cells]

/-- Values of these types. -/
def TyAll (P : Program) : List Nat → List AV → Prop
  | [], [] => True
  | t :: ts, x :: xs => Ty P t x ∧ TyAll P ts xs
  | _, _ => False

theorem open_args (hl : laidOutB P = true) {r : Reach} {b0 : Nat} : ∀ {ts : List Nat} {vs : List Value} {ds : List (DataW H)} {ps : List MemPlace}, (∀ t ∈ ts, byv P 9 t = true ∧ isVar P t = true) →
    (∀ (j : Nat) t v, ts[j]? = some t → vs[j]? = some v → Value.okWide P w r b0 t v) → DataW.TrodAll enc P w 0 (fun _ => true) true ts vs ds ps → (∀ n ∈ DataW.weightsEach P ts ds, n ≤ reachBytes) →
    ∃ cs, cs.map val = vs ∧ OkL w (below w) cs ∧ fps cs = [] ∧ PlL cs ∧ TyAll P ts (ers cs)
  | [], [], [], _, _, _, _, _ => ⟨[], rfl, by simp [OkL], rfl, by simp [PlL], by simp [TyAll, ers]⟩
  | t :: ts, v :: vs, d :: ds, ps, hb, hw, h, hwt => by
    simp only [DataW.weightsEach, List.mem_append] at hwt
    obtain ⟨p, q, h1, h2, _⟩ := h
    obtain ⟨c, c1, c2, c3, c4, c5⟩ := open_arg hl (hb t (by simp)).1 (hb t (by simp)).2 (hw 0 t v rfl rfl) h1 (fun n hn => hwt n (.inl hn))
    obtain ⟨cs, d1, d2, d3, d4, d5⟩ := open_args hl (fun t ht => hb t (by simp [ht])) (fun j t v ht hv => hw (j + 1) t v (by simpa using ht) (by simpa using hv)) h2 (fun n hn => hwt n (.inr hn))
    exact ⟨c :: cs, by simp [c1, d1], by simp [OkL, c2, d2], by simp [fps, c3, d3], by simp [PlL, c4, d4], by simp [TyAll, ers, c5, d5]⟩
  | [], _ :: _, _, _, _, _, h, _ => h.elim
  | [], [], _ :: _, _, _, _, h, _ => h.elim
  | _ :: _, [], _, _, _, _, h, _ => h.elim
  | _ :: _, _ :: _, [], _, _, _, h, _ => h.elim

theorem back_args (hl : laidOutB P = true) {W' : World} (hb : Below w.heap.size w W') : ∀ {ts : List Nat} {vs : List Value} {ds : List (DataW H)} {ps : List MemPlace}, (∀ t ∈ ts, P.readableRec t = true ∧ t < P.types.size) →
    DataW.TrodAll enc P w 0 (fun _ => true) true ts vs ds ps → (∀ x ∈ ps, x.block < w.heap.size) → DataW.TrodAll enc P W' 0 (fun b => decide (b < w.heap.size)) true ts vs ds ps
  | [], [], [], _, _, h, _ => h
  | t :: ts, v :: vs, d :: ds, ps, hr, h, hlt => by
    obtain ⟨p, q, h1, h2, rfl⟩ := h
    exact ⟨p, q, Below.trod hl (hr t (by simp)).1 (hr t (by simp)).2 h1 hb (fun x hx => hlt x (by simp [hx])), back_args hl hb (fun t ht => hr t (by simp [ht])) h2 (fun x hx => hlt x (by simp [hx])), rfl⟩
  | [], _ :: _, _, _, _, h, _ => h.elim
  | [], [], _ :: _, _, _, h, _ => h.elim
  | _ :: _, [], _, _, _, h, _ => h.elim
  | _ :: _, _ :: _, [], _, _, h, _ => h.elim

theorem law_walk {f : Nat} {cs : List CV} (hok : OkL w (below w) cs) (hfp : fps cs = []) (hpl : PlL cs) (hgw : GW P w []) (hS : Sound P f (ers cs) (.bool true)) :
    Calls P f (cs.map val).toArray w fun e w' => e = .returned (.bool true) ∧ Below w.heap.size w w' := by
  refine (hS w (below w) cs rfl hok (by simp [hfp]) (by simp [hfp]) (fun b hb => by simpa [hfp, below] using hb) hpl (by rw [hfp]; exact hgw)).mono fun e w' ⟨c, he, hc, hr⟩ => ?_
  have hcv : val c = .bool true := by cases c <;> simp_all [er, val, val1, flat]
  exact ⟨by rw [he, hcv], ⟨hr.os, hr.tape, hr.output, hr.grew, fun k hk => hr.same k hk (by simp [hfp])⟩⟩
end

theorem ty_bool {P : Program} {t : Nat} {x : AV} (hu : P.underlying t = some .bool) (h : Ty P t x) : ∃ b, x = .bool b := by
  cases h <;> simp_all
theorem ty_int {P : Program} {t : Nat} {k : IntKind} {x : AV} (hu : P.underlying t = some (.int k)) (h : Ty P t x) : ∃ n, x = .int k n ∧ (Lit.int k n).wf = true := by
  cases h <;> simp_all
theorem ty_str {P : Program} {t : Nat} {x : AV} (hu : P.underlying t = some .string) (h : Ty P t x) : ∃ s, x = .str s ∧ s.size ≤ reachBytes := by
  cases h <;> simp_all
theorem ty_lst {P : Program} {t e : Nat} {x : AV} (hu : P.underlying t = some (.slice e)) (h : Ty P t x) : ∃ xs, x = .lst false (P.cellsOf e) xs ∧ xs.length ≤ reachBytes ∧ ∀ y ∈ xs, Ty P e y := by
  cases h with
  | lst hu' hl hy => rw [hu] at hu'; simp only [Option.some.injEq, TypeDesc.slice.injEq] at hu'; subst hu'; exact ⟨_, rfl, hl, hy⟩
  | _ => simp_all
theorem ty_agg {P : Program} {t : Nat} {F : Array Field} {x : AV} (hu : P.underlying t = some (.struct F)) (h : Ty P t x) : ∃ xs, x = .agg xs ∧ xs.length = F.size ∧ ∀ (i : Nat) (f : Field) (y : AV), F[i]? = some f → xs[i]? = some y → Ty P f.type y := by
  cases h with
  | agg hu' hl hy => rw [hu] at hu'; simp only [Option.some.injEq, TypeDesc.struct.injEq] at hu'; subst hu'; exact ⟨_, rfl, hl, hy⟩
  | _ => simp_all
theorem list_map_of {α : Type} {Q : α → Prop} (enc : α → AV) : ∀ (xs : List AV), (∀ y ∈ xs, ∃ t, y = enc t ∧ Q t) → ∃ f : List α, xs = f.map enc ∧ ∀ t ∈ f, Q t
  | [], _ => ⟨[], rfl, by simp⟩
  | y :: ys, h => by
    obtain ⟨t, rfl, hq⟩ := h y (by simp)
    obtain ⟨f, rfl, hf⟩ := list_map_of enc ys (fun y hy => h y (by simp [hy]))
    exact ⟨t :: f, rfl, by intro u hu; rcases List.mem_cons.1 hu with rfl | hu; exact hq; exact hf u hu⟩
theorem tyAll_one {P : Program} {t : Nat} {xs : List AV} (h : TyAll P [t] xs) : ∃ x, xs = [x] ∧ Ty P t x := by
  match xs, h with
  | [x], h => exact ⟨x, rfl, h.1⟩
theorem tyAll_two {P : Program} {t u : Nat} {xs : List AV} (h : TyAll P [t, u] xs) : ∃ x y, xs = [x, y] ∧ Ty P t x ∧ Ty P u y := by
  match xs, h with
  | [x, y], h => exact ⟨x, y, rfl, h.1, h.2.1⟩
theorem lens_one {α : Type} {xs : List α} (h : xs.length = 1) : ∃ x, xs = [x] := by
  match xs, h with
  | [x], _ => exact ⟨x, rfl⟩
theorem lens_two {α : Type} {xs : List α} (h : xs.length = 2) : ∃ x y, xs = [x, y] := by
  match xs, h with
  | [x, y], _ => exact ⟨x, y, rfl⟩
theorem tyAll_three {P : Program} {t u v : Nat} {xs : List AV} (h : TyAll P [t, u, v] xs) : ∃ x y z, xs = [x, y, z] ∧ Ty P t x ∧ Ty P u y ∧ Ty P v z := by
  match xs, h with
  | [x, y, z], h => exact ⟨x, y, z, rfl, h.1, h.2.1, h.2.2.1⟩
theorem lens_three {α : Type} {xs : List α} (h : xs.length = 3) : ∃ x y z, xs = [x, y, z] := by
  match xs, h with
  | [x, y, z], _ => exact ⟨x, y, z, rfl⟩
/-- Types as the law's parameters: plain, readable. -/
def parB (P : Program) (t : Nat) : Bool := byv P 9 t && isVar P t && P.readableRec t && decide (t < P.types.size)

/-- The variable is laid as one number of type t. -/
def gChk (P : Program) (t : Nat) : Bool :=
  match gMax P with
  | none => true
  | some g => decide (g < P.globals.size) && P.buildable t && (match P.cellTypes P.depth t with | some [u] => u == t | _ => false) &&
    (match ((begin P (fun _ _ => 0) default).world.heap[g]?).bind Obj.row? with
    | some (zero, u) => zero.size == 1 && u == t
    | none => false)
theorem gw_of {P : Program} {t : Nat} (hu : P.underlying t = some (.int .i64)) (hc : gChk P t = true) (w : World) (hsh : w.ShapedOpen P) : GW P w [] := fun g hg => by
  unfold gChk at hc
  rw [hg] at hc
  simp only [Bool.and_eq_true, decide_eq_true_eq] at hc
  obtain ⟨⟨⟨h1, h2⟩, h3⟩, h4⟩ := hc
  have h3' : P.cellTypes P.depth t = some [t] := by
    split at h3
    · rename_i u e; rw [e]; simp only [beq_iff_eq] at h3; rw [h3]
    · cases h3
  split at h4
  · rename_i zero u e
    simp only [Bool.and_eq_true, beq_iff_eq] at h4
    obtain ⟨h5, rfl⟩ := h4
    obtain ⟨m, hm⟩ := Go.Proofs.cell_of_shapedOpen_int hsh h1 e h5 h2 h3' hu
    refine ⟨⟨?_, by simp⟩, m, hm⟩
    rcases Nat.lt_or_ge g w.heap.size with h | h
    · exact h
    · simp [World.cell?, Array.getElem?_eq_none h] at hm
  · cases h4
/-- A law that holds of all values of its parameters' types: its row. -/
theorem law_lifted {C : Checked} {os : Os} {f : Nat} {fn : Func} {s : ChangeSpec} {conds : List PathCond} {H : Type} {enc : TypeId × Value → H}
    (own : ownKnob C.prog.godebug = none) (started : os.Started) (noInit : C.prog.inits.idxOf? f = none) (hfn : C.prog.funcs[f]? = some fn)
    (witness : ∃ (w : World) (tape : Tape) (i : Input), w.os = os ∧ (w.forCall tape i).Shaped C.prog ∧ i.vars = [] ∧ Input.okWide C.prog (w.forCall tape i) .any w.heap.size f i ∧
      s.pre6 enc C.prog fn conds false (w.forCall tape i).memory i.args ∧ ({} : Assume).holds C.prog (lone (Frame.enter C.prog f i.args .normal) [] (w.forCall tape i)))
    (hl : laidOutB C.prog = true) (hv : s.vars = []) (hpar0 : fn.params.toList.all (parB C.prog) = true) {rt : Nat} (hrt : fn.resultTypes.toList = [rt]) (hru : C.prog.underlying rt = some .bool)
    (hsp : ∀ ds : List (DataW H), ds.length = fn.params.size → (s.fn H ds).results = [.lit (.bool true)] ∧ (s.fn H ds).args = ds ∧ (s.fn H ds).vars = [])
    (hgm : ∀ w : World, w.ShapedOpen C.prog → GW C.prog w []) (hS : ∀ xs, TyAll C.prog fn.params.toList xs → Sound C.prog f xs (.bool true)) :
    ReturnsInHanded {} C os f .any (s.pre6 enc C.prog fn conds false) (s.post enc C.prog fn false true false false) := by
  have hpar := List.all_eq_true.1 hpar0
  have hp1 : ∀ t ∈ fn.params.toList, byv C.prog 9 t = true ∧ isVar C.prog t = true := fun t ht => by have := hpar t ht; simp only [parB, Bool.and_eq_true] at this; exact this.1.1
  have hp2 : ∀ t ∈ fn.params.toList, C.prog.readableRec t = true ∧ t < C.prog.types.size := fun t ht => by have := hpar t ht; simp only [parB, Bool.and_eq_true, decide_eq_true_eq] at this; exact ⟨this.1.2, this.2⟩
  refine returnsInHanded_of_change_shaped own started noInit hfn witness ?_
  intro W base args ds gs before hval hW _ hsz hsh _
  have hW' := hW
  obtain ⟨p, q, hA, hV, rfl, _, _⟩ := hW
  rw [hv] at hV
  obtain ⟨rfl, rfl⟩ := trodVars_none hV
  have hwt : ∀ n ∈ DataW.weightsEach C.prog fn.params.toList ds, n ≤ reachBytes := fun n hn => by
    have hvt : s.plain.varTypes C.prog = [] := by unfold DataSpec.varTypes ChangeSpec.plain; simp [hv]
    rw [hvt, List.append_nil, List.append_nil] at hsz
    have := List.all_eq_true.1 hsz n hn
    simpa using this
  obtain ⟨cs, c1, c2, c3, c4, c5⟩ := open_args hl hp1 (fun j t v ht hv => hval j t v (by simpa using ht) (by simpa using hv)) hA hwt
  have hargs : args = (cs.map val).toArray := by rw [c1]
  have hlt : ∀ x ∈ p, x.block < W.heap.size := DataW.TrodAll.lt hA
  have hdl : ds.length = fn.params.size := by
    clear hW' c1 hargs hlt hval
    have : ∀ {ts : List Nat} {vs : List Value} {ds : List (DataW H)} {ps : List MemPlace}, DataW.TrodAll enc C.prog W 0 (fun _ => true) true ts vs ds ps → ds.length = ts.length := by
      intro ts
      induction ts with
      | nil => intro vs ds ps h; cases vs <;> cases ds <;> simp_all [DataW.TrodAll]
      | cons t ts ih =>
        intro vs ds ps h
        cases vs <;> cases ds <;> simp only [DataW.TrodAll] at h
        obtain ⟨_, _, _, h, _⟩ := h
        simp [ih h]
    simpa using this hA
  subst hargs
  refine (law_walk c2 c3 c4 (hgm _ hsh) (hS _ c5)).mono fun e W' ⟨he, bel⟩ => ?_
  subst he
  obtain ⟨s1, s2, s3⟩ := hsp ds hdl
  refine ⟨_, rfl, ds, [], _, [], p, [], hW', ?_, ?_, ?_, bel.frame _, fun h => by cases h⟩
  · rw [List.append_nil, s1, hrt]
    have : fn.resultTypes.size = 1 := by rw [← Array.length_toList, hrt]; rfl
    rw [this]
    exact trodAll_mk1 (shut_bool hru _)
  · rw [List.append_nil, s2]; exact back_args hl bel hp2 hA hlt
  · rw [List.append_nil, s3, hv]; rfl
end Go.Bv
