/- Regions whose order is drawn: every order comes to the same frame. Generic: no program. -/
import Derived.Test.YtjmodjanaeoiiaaBvY
namespace Go.Bv
open Go Go.RowKit
set_option linter.unusedSimpArgs false
set_option linter.unusedVariables false

/-- One operation of a region, guard and all. -/
def AS (P : Program) (ops : Array Oper) (o : Oper) (S S' : List AV) : Prop :=
  (gchk ops S o = some true ∧ AO P o S S') ∨ (gchk ops S o = some false ∧ aput o.dst (.tup []) S = S')

/-- Done as well: k. -/
def also (D : Nat → Bool) (k : Nat) : Nat → Bool := fun j => bif j == k then true else D j

/-- A: what must be done ahead of each: its own edges, and what these wait for. -/
def ancOk (ops : Array Oper) (A : List (List Nat)) : Bool :=
  (List.range ops.size).all fun k => match ops[k]? with
    | none => true
    | some o => (o.after.all fun e => !Region.binds .any e || decide (e.on < k)) &&
      ((A[k]?).getD []).all fun j => o.after.any fun e => Region.binds .any e && (e.on == j || ((A[e.on]?).getD []).contains j)

/-- Slot t of the frame, if b. -/
def putIf (b : Bool) : Nat → AV → List AV → List AV
  | _, _, [] => []
  | 0, v, x :: S => (bif b then v else x) :: S
  | t + 1, v, x :: S => x :: putIf b t v S
def putIfs (b : Bool) : List (Nat × AV) → List AV → List AV
  | [], S => S
  | (t, v) :: ws, S => putIfs b ws (putIf b t v S)
/-- The frame when D is done: W: what each operation writes. -/
def fillW (D : Nat → Bool) : Nat → List (List (Nat × AV)) → List AV → List AV
  | _, [], S => S
  | k, ws :: W, S => fillW D (k + 1) W (putIfs (D k) ws S)
theorem putIf_false : ∀ (t : Nat) (v : AV) (S : List AV), putIf false t v S = S
  | _, _, [] => by simp [putIf]
  | 0, v, x :: S => by simp [putIf]
  | t + 1, v, x :: S => by simp [putIf, putIf_false t v S]
theorem putIfs_false : ∀ (ws : List (Nat × AV)) (S : List AV), putIfs false ws S = S
  | [], S => rfl
  | (t, v) :: ws, S => by simp [putIfs, putIf_false, putIfs_false ws]
theorem fillW_none : ∀ (W : List (List (Nat × AV))) (k : Nat) (S : List AV), fillW (fun _ => false) k W S = S
  | [], _, _ => rfl
  | ws :: W, k, S => by simp [fillW, putIfs_false, fillW_none W]
theorem fillW_congr {D D' : Nat → Bool} : ∀ (W : List (List (Nat × AV))) (k : Nat) (S : List AV), (∀ j, k ≤ j → j < k + W.length → D j = D' j) → fillW D k W S = fillW D' k W S
  | [], _, _, _ => rfl
  | ws :: W, k, S, h => by
    simp only [fillW]
    rw [h k (Nat.le_refl _) (by simp)]
    exact fillW_congr W (k + 1) _ (fun j h1 h2 => h j (by omega) (by simp; omega))

/-- All of these are done. -/
def allT (D : Nat → Bool) : List Nat → Prop
  | [] => True
  | j :: r => D j = true ∧ allT D r
theorem allT_of {D : Nat → Bool} : ∀ (r : List Nat), (∀ j ∈ r, D j = true) → allT D r
  | [], _ => trivial
  | j :: r, h => ⟨h j (by simp), allT_of r fun i hi => h i (by simp [hi])⟩

section
variable {P : Program} {Γ : Tab} {S : List AV} {ops : Array Oper} {l : List Oper} {o : Oper} {N : List AV → Prop} {A : List (List Nat)} {F : (Nat → Bool) → List AV}

/-- The steps of all operations, whatever else is done. -/
def Steps (P : Program) (ops : Array Oper) (A : List (List Nat)) (F : (Nat → Bool) → List AV) : Nat → List Oper → Prop
  | _, [] => True
  | k, o :: l => (∀ D, D k = false → (∀ j ∈ (A[k]?).getD [], D j = true) → AS P ops o (F D) (F (also D k))) ∧ Steps P ops A F (k + 1) l
theorem steps_at : ∀ {l : List Oper} {k j : Nat} {o : Oper}, Steps P ops A F k l → l[j]? = some o → ∀ D, D (k + j) = false → (∀ i ∈ (A[k + j]?).getD [], D i = true) → AS P ops o (F D) (F (also D (k + j)))
  | [], _, _, _, _, h => by simp at h
  | o :: l, k, 0, o', h, hj => by
    simp only [List.getElem?_cons_zero, Option.some.injEq] at hj
    subst hj
    exact h.1
  | o :: l, k, j + 1, o', h, hj => by
    have := steps_at (j := j) h.2 (by simpa using hj)
    rw [show k + (j + 1) = k + 1 + j by omega]
    exact this

theorem any_go (hA : ancOk ops A = true) (hst : Steps P ops A F 0 ops.toList) {K : Kp} (hF : ∀ o ∈ ops.toList, K.free o.dst) {w0 : World} {Z0 : Nat → Prop} {Q : Exit → Act → World → Prop}
    (hQ : ∀ D a w, (∀ k, k < ops.size → D k = true) → At K w0 Z0 (F D) a w → Q .normal a w) :
    ∀ (fuel : Nat) (listed : Array Bool) (D : Nat → Bool) (a : Act) (w : World), listed.size = ops.size → (∀ j, j < ops.size → listed[j]? = some (D j)) →
      (∀ i, i < ops.size → D i = true → ∀ j ∈ (A[i]?).getD [], D j = true) → ((List.range ops.size).filter fun k => !D k).length ≤ fuel → At K w0 Z0 (F D) a w → wpAny P .any ops Q fuel listed a w := by
  have hA' : ∀ k o, ops[k]? = some o → (∀ e ∈ o.after, Region.binds .any e = true → e.on < k) ∧ ∀ j ∈ (A[k]?).getD [], ∃ e ∈ o.after, Region.binds .any e = true ∧ (e.on = j ∨ j ∈ (A[e.on]?).getD []) := by
    intro k o ho
    have hlt : k < ops.size := (Array.getElem?_eq_some_iff.1 ho).1
    have := List.all_eq_true.1 hA k (List.mem_range.2 hlt)
    simp only [ho, Bool.and_eq_true, Array.all_eq_true_iff_forall_mem, Bool.or_eq_true, Bool.not_eq_true', decide_eq_true_eq, List.all_eq_true, Array.any_eq_true'] at this
    refine ⟨fun e he hb => (this.1 e he).resolve_left (by simp [hb]), fun j hj => ?_⟩
    obtain ⟨e, he, h1⟩ := this.2 j hj
    refine ⟨e, he, h1.1, h1.2.imp (fun h => by simpa using h) (fun h => by simpa using h)⟩
  have all_of : ∀ (listed : Array Bool) (D : Nat → Bool), listed.size = ops.size → (∀ j, j < ops.size → listed[j]? = some (D j)) → Region.ready .any ops listed = [] → ∀ k, k < ops.size → D k = true := by
    intro listed D hs hl hr k
    induction k using Nat.strongRecOn with
    | _ k ih =>
      intro hk
      cases hD : D k with
      | true => rfl
      | false =>
        have : k ∈ Region.ready .any ops listed := by
          rw [mem_ready]
          refine ⟨by simp [hl k hk, hD], ops[k], by simp [hk], fun e he hb => ?_⟩
          have := (hA' k ops[k] (by simp [hk])).1 e he hb
          have h2 : e.on < ops.size := by omega
          simp [hl _ h2, ih _ this h2]
        rw [hr] at this
        simp at this
  intro fuel
  induction fuel with
  | zero =>
    intro listed D a w hs hl hinv hf hAt
    have hall : ∀ k, k < ops.size → D k = true := by
      intro k hk
      have : (List.range ops.size).filter (fun k => !D k) = [] := List.eq_nil_of_length_eq_zero (by omega)
      have := List.filter_eq_nil_iff.1 this k (List.mem_range.2 hk)
      simpa using this
    refine ⟨?_, hQ D a w hall hAt⟩
    apply List.eq_nil_iff_forall_not_mem.2
    intro j hj
    obtain ⟨h1, o, h2, _⟩ := mem_ready.1 hj
    have hj' : j < ops.size := (Array.getElem?_eq_some_iff.1 h2).1
    simp [hl j hj', hall j hj'] at h1
  | succ fuel ih =>
    intro listed D a w hs hl hinv hf hAt
    refine ⟨fun hr => hQ D a w (all_of listed D hs hl hr) hAt, fun i hi => ?_⟩
    obtain ⟨h1, o, ho, hpre⟩ := mem_ready.1 hi
    have hil : i < ops.size := (Array.getElem?_eq_some_iff.1 ho).1
    have hDi : D i = false := by simpa [hl i hil] using h1
    have hanc : ∀ j ∈ (A[i]?).getD [], D j = true := by
      intro j hj
      obtain ⟨e, he, hb, h2⟩ := (hA' i o ho).2 j hj
      have hlt := (hA' i o ho).1 e he hb
      have hDe : D e.on = true := by
        have := hpre e he hb
        have h3 : e.on < ops.size := by omega
        simpa [hl _ h3] using this
      rcases h2 with h2 | h2
      · rw [← h2]; exact hDe
      · exact hinv e.on (by omega) hDe j h2
    have hst' := steps_at (k := 0) (j := i) (o := o) hst (by simpa using ho) D (by simpa using hDi) (by simpa using hanc)
    rw [Nat.zero_add] at hst'
    have hnext : ∀ a' w', At K w0 Z0 (F (also D i)) a' w' → wpAny P .any ops Q fuel (listed.setIfInBounds i true) a' w' := by
      intro a' w' hAt'
      refine ih _ (also D i) a' w' (by simp [hs]) (fun j hj => ?_) (fun k hk hD j hj => ?_) ?_ hAt'
      · by_cases hji : j = i
        · subst hji; simp [also, hs, hil]
        · have : (j == i) = false := by simp [hji]
          rw [Array.getElem?_setIfInBounds_ne (by omega), hl j hj]; simp [also, this]
      · have mono : ∀ j, D j = true → also D i j = true := fun j h => by unfold also; cases (j == i) <;> simp [h]
        by_cases hki : k = i
        · subst hki; exact mono j (hanc j hj)
        · have : (k == i) = false := by simp [hki]
          simp only [also, this, cond_false] at hD
          exact mono j (hinv k hk hD j hj)
      · have hlt : ((List.range ops.size).filter fun k => !also D i k).length < ((List.range ops.size).filter fun k => !D k).length := by
          have hsub : ((List.range ops.size).filter fun k => !also D i k) = (((List.range ops.size).filter fun k => !D k).filter fun k => !(k == i)) := by
            rw [List.filter_filter]
            apply List.filter_congr
            intro k _
            unfold also
            cases (k == i) <;> simp
          rw [hsub]
          refine List.length_filter_lt_length_iff_exists.2 ⟨i, ?_, by simp⟩
          rw [List.mem_filter]
          exact ⟨List.mem_range.2 hil, by simp [hDi]⟩
        omega
    unfold wpOp
    simp only [ho]
    rcases hst' with ⟨hg, hop⟩ | ⟨hg, hput⟩
    · rw [gchk_wanted hAt hg, if_pos rfl]
      exact .inl (Oper.wp_mono (fun a' w' h => hnext a' w' h) (hop K w0 Z0 a w (hF o (by rw [Array.mem_toList_iff]; exact Array.mem_of_getElem? ho)) hAt Q))
    · rw [gchk_wanted hAt hg, if_neg (by simp)]
      refine hnext _ w ?_
      rw [← hput]
      exact hAt.skip o.dst (hF o (by rw [Array.mem_toList_iff]; exact Array.mem_of_getElem? ho))

/-- A drawn region: whatever its order, it fills the same frame. -/
theorem aw_anyF (hT : TabOk P Γ) {id : Nat} {Q : Exit → List AV → Prop} (A : List (List Nat)) (hA : ancOk l.toArray A = true) (F : (Nat → Bool) → List AV) (h0 : F (fun _ => false) = S)
    (hst : Steps P l.toArray A F 0 l) (hQ : ∀ D, (∀ k, k < l.length → D k = true) → Q .normal (F D)) : AW P (.region id l.toArray true) S Q := fun K w0 Z0 a w hF hAt => by
  refine wp_region_any hT.follows (any_go (K := K) (hF := by simpa [Kp.frees] using hF) (w0 := w0) (Z0 := Z0) (F := F) (A := A) hA (by simpa using hst) (fun D a w hD h => ⟨F D, hQ D (by simpa using hD), h⟩) _ _ (fun _ => false) _ _ (by simp) (fun j hj => by simp only [Array.getElem?_replicate]; rw [if_pos hj]) (by simp) ?_ ?_)
  · exact Nat.le_trans (List.length_filter_le _ _) (by simp)
  · rw [h0]; exact hAt.drawn
/-- .. told by what each operation writes. -/
theorem aw_anyW {id : Nat} {Q : Exit → List AV → Prop} (A : List (List Nat)) (W : List (List (Nat × AV))) (hT : TabOk P Γ) (hA : ancOk l.toArray A = true)
    (hst : Steps P l.toArray A (fun D => fillW D 0 W S) 0 l) (hl : W.length = l.length) (hQ : Q .normal (fillW (fun _ => true) 0 W S)) : AW P (.region id l.toArray true) S Q :=
  aw_anyF hT A hA (fun D => fillW D 0 W S) (fillW_none W 0 S) hst fun D hD => by
    have : fillW D 0 W S = fillW (fun _ => true) 0 W S := fillW_congr W 0 S (fun j _ h => hD j (by omega))
    rw [this]; exact hQ

theorem steps_nil {k : Nat} : Steps P ops A F k [] := trivial
theorem steps_cons {k : Nat} (h1 : ∀ D, D k = false → allT D ((A[k]?).getD []) → AS P ops o (F D) (F (also D k))) (h2 : Steps P ops A F (k + 1) l) : Steps P ops A F k (o :: l) := ⟨fun D hk hd => h1 D hk (allT_of _ hd), h2⟩
theorem as_s (hT : TabOk P Γ) (keep : Bool) {S S' : List AV} (hg : gchk ops S o = some true) (hv : ast Γ keep S o = some S') : AS P ops o S S' := .inl ⟨hg, ast_AO hT hv⟩
theorem as_q (hT : TabOk P Γ) {v : AV} {S S' : List AV} (hg : gchk ops S o = some true) (hv : qv Γ S o = some v) (hS : aput o.dst v S = S') : AS P ops o S S' := by
  subst hS; exact .inl ⟨hg, aq_AO hT hv⟩
theorem as_op {S S' : List AV} (hg : gchk ops S o = some true) (h : AO P o S S') : AS P ops o S S' := .inl ⟨hg, h⟩
theorem as_call {f : Nat} {args : Array Operand} {ats : Array TypeId} {S S' vs : List AV} {r : AV} (hg : gchk ops S o = some true) (ho : o.op = .call { callee := .value (.func f), args, argTypes := ats })
    (hf : ∀ vs w, (callFunc f vs).run P w = .ok (.enter f vs) w) (hvs : ards S args.toList = some vs) (hpl : plAs vs = true) (hS : Sound P f vs r) (hS' : aput o.dst r S = S') : AS P ops o S S' := by
  subst hS'; exact .inl ⟨hg, call_AO ho hf hvs hpl hS⟩
theorem as_snap {f : Nat} {args : Array Operand} {ats : Array TypeId} {S S' vs ps : List AV} {r : AV} (hg : gchk ops S o = some true) (ho : o.op = .call { callee := .value (.func f), args, argTypes := ats })
    (hf : ∀ vs w, (callFunc f vs).run P w = .ok (.enter f vs) w) (hvs : ards S args.toList = some vs) (hps : asnaps S vs = some ps) (hS : Sound P f ps r) (hn : noSh r = true) (hS' : aput o.dst r S = S') : AS P ops o S S' := by
  subst hS'; exact .inl ⟨hg, call_snap ho hf hvs hps hS hn⟩
end
end Go.Bv
