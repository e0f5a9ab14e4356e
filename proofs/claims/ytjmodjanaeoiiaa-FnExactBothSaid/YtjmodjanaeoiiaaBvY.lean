/- Stepping through regions, guards and all; each operation's step. Generic: no program. -/
import Derived.Test.YtjmodjanaeoiiaaBvX
namespace Go.Bv
open Go Go.RowKit
set_option linter.unusedSimpArgs false
set_option linter.unusedVariables false

/-- Is the operation to be run? -/
def gchk (ops : Array Oper) (S : List AV) (o : Oper) : Option Bool :=
  match o.guard with
  | none => some true
  | some (g, b) => match ops[g]? with
    | some q => (match q.dst with
      | some d => (match S[d]? with
        | some (.bool t) => some (match b with | true => t | false => !t)
        | some (.tup _) => some false
        | _ => none)
      | none => none)
    | none => none

/-- The operations l of ops, in this order; N: what they come to. st: of those that leave memory alone. -/
def AL (P : Program) (st : Bool) (ops : Array Oper) (l : List Oper) (S : List AV) (N : List AV → Prop) : Prop :=
  match st with
  | true => ∀ (K : Kp) w0 Z0 a w, (∀ o ∈ l, K.free o.dst) → At K w0 Z0 S a w → ∀ (M : Act → Prop), (∀ S' a', N S' → At K w0 Z0 S' a' w → M a') → wpStill P ops w M l a
  | false => AR P ops l S N

section
variable {P : Program} {Γ : Tab} {S : List AV} {ops : Array Oper} {l : List Oper} {o : Oper} {N : List AV → Prop} {st : Bool}

theorem gchk_wanted {K : Kp} {w0 : World} {Z0 : Nat → Prop} {a : Act} {w : World} (hA : At K w0 Z0 S a w) {t : Bool} (h : gchk ops S o = some t) : Region.wanted o (yielded ops a.tmps) = t := by
  unfold gchk at h
  unfold Region.wanted
  cases hg : o.guard with
  | none => simp only [hg, Option.some.injEq] at h; simp [h]
  | some gb =>
    obtain ⟨g, b⟩ := gb
    simp only [hg] at h ⊢
    cases hq : ops[g]? with
    | none => simp [hq] at h
    | some q =>
      simp only [hq] at h
      cases hd : q.dst with
      | none => simp [hd] at h
      | some d =>
        simp only [hd] at h
        obtain ⟨⟨Z, Sc, _, _, rfl, hG⟩, _⟩ := hA
        rw [ers_eq, List.getElem?_map] at h
        cases hx : Sc[d]? with
        | none => simp [hx] at h
        | some x =>
          have hl : d < a.tmps.size := by rw [hG.size]; exact (List.getElem?_eq_some_iff.1 hx).1
          have ht := hG.tmps d hl
          rw [hx, Option.map_some] at ht
          simp only [yielded, hq, Option.bind_some, hd, ht]
          cases x <;> simp only [hx, Option.map_some, er] at h <;> try (cases h; done)
          · rename_i u
            simp only [Option.some.injEq] at h
            subst h
            cases b <;> cases u <;> simp [val, val1, flat]
          · simp only [Option.some.injEq] at h
            subst h
            simp [val]

theorem At.skip {K : Kp} {w0 : World} {Z0 : Nat → Prop} {a : Act} {w : World} (hA : At K w0 Z0 S a w) (dst : Option Nat) (hf : K.free dst) : At K w0 Z0 (aput dst (.tup []) S) (a.put dst undef) w := by
  obtain ⟨⟨Z, Sc, z1, z2, rfl, hG⟩, hfx⟩ := hA
  have h := (hG.add (c := .tup []) (by simp [Ok, OkL]) (by simp [fp, fps]) (by simp [NR])).put dst
  refine ⟨⟨Z, _, z1, z2, by rw [er_cput]; simp [er, ers], h⟩, fun t v ht => ?_⟩
  rw [put_other (fun e => by rw [e] at hf; simp only [Kp.free] at hf; rw [hf] at ht; cases ht)]
  exact hfx t v ht

theorem gchk_none (h : o.guard = none) : gchk ops S o = some true := by simp [gchk, h]
theorem al_nil (h : N S) : AL P st ops [] S N := by
  cases st
  · exact ar_nil h
  · exact fun K w0 Z0 a w _ hA M hM => hM S a h hA
theorem al_skip {S' : List AV} (hg : gchk ops S o = some false) (hS : aput o.dst (.tup []) S = S') (h : AL P st ops l S' N) : AL P st ops (o :: l) S N := by
  subst hS
  cases st
  · intro K w0 Z0 a w hF hA Q hQ k hk
    have h0 : ops[k]? = some o := by have := hk 0; simpa using this.symm
    simp only [List.length_cons, List.range'_succ, wpOps, h0, gchk_wanted hA hg, Bool.false_eq_true, if_false]
    refine h K w0 Z0 _ w (fun q hq => hF q (by simp [hq])) (hA.skip o.dst (hF o (by simp))) Q hQ (k + 1) fun j => ?_
    have := hk (j + 1)
    rw [List.getElem?_cons_succ] at this
    rw [this]; congr 1; omega
  · intro K w0 Z0 a w hF hA M hM
    simp only [wpStill, gchk_wanted hA hg, Bool.false_eq_true, if_false]
    exact h K w0 Z0 _ w (fun q hq => hF q (by simp [hq])) (hA.skip o.dst (hF o (by simp))) M hM
theorem al_op {S' : List AV} (hg : gchk ops S o = some true) (ho : AO P o S S') (h : AL P false ops l S' N) : AL P false ops (o :: l) S N := fun K w0 Z0 a w hF hA Q hQ k hk => by
  have h0 : ops[k]? = some o := by have := hk 0; simpa using this.symm
  simp only [List.length_cons, List.range'_succ, wpOps, h0, gchk_wanted hA hg, if_true]
  refine .inl (Oper.wp_mono (fun a' w' hA' => h K w0 Z0 a' w' (fun q hq => hF q (by simp [hq])) hA' Q hQ (k + 1) fun j => ?_) (ho K w0 Z0 a w (hF o (by simp)) hA Q))
  have := hk (j + 1)
  rw [List.getElem?_cons_succ] at this
  rw [this]; congr 1; omega
/-- A quiet operation. -/
theorem al_q (hT : TabOk P Γ) {v : AV} {S' : List AV} (hg : gchk ops S o = some true) (hv : qv Γ S o = some v) (hS : aput o.dst v S = S') (h : AL P st ops l S' N) : AL P st ops (o :: l) S N := by
  subst hS
  cases st
  · exact al_op hg (aq_AO hT hv) h
  · intro K w0 Z0 a w hF hA M hM
    obtain ⟨u, hr, hA'⟩ := qv_step hT hv (hF o (by simp)) hA
    simp only [wpStill, gchk_wanted hA hg, if_true, Oper.still, hr, Oper.stillUpon]
    exact ⟨trivial, h K w0 Z0 _ w (fun q hq => hF q (by simp [hq])) hA' M hM⟩
/-- A guard that is not known. -/
theorem al_case {t : Bool} {S' : List AV} (hg : gchk ops S o = some t) (hS : aput o.dst (.tup []) S = S') (h1 : t = true → AL P st ops (o :: l) S N) (h2 : t = false → AL P st ops l S' N) : AL P st ops (o :: l) S N := by
  cases t
  · exact al_skip hg hS (h2 rfl)
  · exact h1 rfl
/-- What a guard's operation has yielded. -/
def graw (ops : Array Oper) (S : List AV) (g : Nat) : Option Bool :=
  match ops[g]? with
  | some q => (match q.dst with
    | some d => (match S[d]? with
      | some (.bool t) => some t
      | _ => none)
    | none => none)
  | none => none
theorem graw_gchk {g : Nat} {b t : Bool} (hb : o.guard = some (g, b)) (h : graw ops S g = some t) : gchk ops S o = some (bif b then t else !t) := by
  unfold graw at h
  unfold gchk
  simp only [hb]
  cases hq : ops[g]? with
  | none => simp [hq] at h
  | some q =>
    simp only [hq] at h ⊢
    cases hd : q.dst with
    | none => simp [hd] at h
    | some d =>
      simp only [hd] at h ⊢
      split at h
      · rename_i u hu
        simp only [Option.some.injEq] at h
        subst h
        cases b <;> simp [hu]
      · cases h
theorem al_caseT {g : Nat} {t : Bool} {S' : List AV} (hb : o.guard = some (g, true)) (hg : graw ops S g = some t) (hS : aput o.dst (.tup []) S = S') (h1 : t = true → AL P st ops (o :: l) S N) (h2 : t = false → AL P st ops l S' N) : AL P st ops (o :: l) S N :=
  al_case (graw_gchk hb hg) hS h1 h2
theorem al_caseF {g : Nat} {t : Bool} {S' : List AV} (hb : o.guard = some (g, false)) (hg : graw ops S g = some t) (hS : aput o.dst (.tup []) S = S') (h1 : t = false → AL P st ops (o :: l) S N) (h2 : t = true → AL P st ops l S' N) : AL P st ops (o :: l) S N :=
  al_case (graw_gchk hb hg) hS (fun h => h1 (by simpa using h)) (fun h => h2 (by simpa using h))
theorem aw_reg {id : Nat} {Q : Exit → List AV → Prop} (h : AL P false l.toArray l S (Q .normal)) : AW P (.region id l.toArray false) S Q :=
  aw_region h fun _ h => h
theorem aw_any (hT : TabOk P Γ) {id : Nat} {Q : Exit → List AV → Prop} (hB : Region.lexB .any l.toArray = true) (h : AL P true l.toArray l S (Q .normal)) : AW P (.region id l.toArray true) S Q := fun K w0 Z0 a w hF hA =>
  wp_region_still_lit hT.follows hB (h K w0 Z0 a _ (by simpa [Kp.frees] using hF) hA.drawn _ fun S' a' hN hS => ⟨S', hN, hS⟩)

theorem thenA_n {M : List AV → Prop} {Q : Exit → List AV → Prop} (h : M S) : thenA M Q .normal S := h
theorem thenA_r {M : List AV → Prop} {Q : Exit → List AV → Prop} (h : Q .ret S) : thenA M Q .ret S := h
theorem thenA_x {M : List AV → Prop} {Q : Exit → List AV → Prop} {i : Nat} (h : Q (.exit i) S) : thenA M Q (.exit i) S := h
theorem blockA_n {i : Nat} {Q : Exit → List AV → Prop} (h : Q .normal S) : blockA i Q .normal S := h
theorem blockA_r {i : Nat} {Q : Exit → List AV → Prop} (h : Q .ret S) : blockA i Q .ret S := h
theorem blockA_e {i : Nat} {Q : Exit → List AV → Prop} (h : Q .normal S) : blockA i Q (.exit i) S := by simpa [blockA] using h
theorem blockA_x {i j : Nat} {Q : Exit → List AV → Prop} (hne : j ≠ i) (h : Q (.exit j) S) : blockA i Q (.exit j) S := by simpa [blockA, hne] using h
theorem ends_r {rs : List ResultVar} {r : AV} (h : ares Γ rs S = some r) : endsA Γ rs r .ret S := h
theorem ends_n {rs : List ResultVar} {r : AV} (h : ares Γ rs S = some r) : endsA Γ rs r .normal S := h

/-! ### the operations that turn the frame or make memory -/
theorem es_AO {S' : List AV} (h : ∀ K w0 Z Sc a w, ers Sc = S → Good K w0 Z Sc [] a w → ES P K w0 Z [] a w o S') : AO P o S S' := ao_of fun K w0 Z0 a w ⟨Z, Sc, z1, z2, hSc, hG⟩ Q =>
  Oper.wp_mono (fun a' w' ⟨Sc', e, hG'⟩ => ⟨Z, Sc', z1, z2, e, hG'⟩) (h K w0 Z Sc a w hSc hG Q)
theorem ao_assign {x : Operand} (ho : o.op = .assign x) {v : AV} (hx : ard S x = some v) (hr : arefs v = []) : AO P o S (aput o.dst v S) :=
  es_AO fun K w0 Z Sc a w e hG => by subst e; exact (assign_sound hG ho hx).1 hr
theorem ao_assign_ref {x : Operand} (ho : o.op = .assign x) {v : AV} (hx : ard S x = some v) : AO P o S (aput o.dst v S) :=
  es_AO fun K w0 Z Sc a w e hG => by
    subst e
    obtain ⟨c, rfl, hval, hrd, hnt⟩ := hG.rd hx
    have hrun : (execOp a.eval o).run P w = .ok (.value (val c)) w := by unfold execOp; simp [ho, hval]
    exact es_value hrun (er_cput _ _ _) (hG.putRd o.dst hrd)
theorem ao_assign_take {x : Operand} (ho : o.op = .assign x) {v v' : AV} {S' : List AV} (hx : ard S x = some v) (ht : atake S v = some (v', S')) : AO P o S (aput o.dst v' S') :=
  es_AO fun K w0 Z Sc a w e hG => by subst e; exact (assign_sound hG ho hx).2 v' S' ht
theorem ao_box {T : Nat} {x : Operand} (ho : o.op = .box T x) {v v' : AV} {S' : List AV} (hx : ard S x = some v) (ht : atake S v = some (v', S')) : AO P o S (aput o.dst (.box v') S') :=
  es_AO fun K w0 Z Sc a w e hG => by subst e; exact box_sound hG ho hx ht
theorem ao_alloc (hT : TabOk P Γ) {T : Nat} (ho : o.op = .alloc T) {z : AV} (hz : Γ.zero T = some z) : AO P o S (aput o.dst (.box z) S) :=
  es_AO fun K w0 Z Sc a w e hG => by subst e; exact alloc_sound hT hG ho hz
theorem ao_store (hT : TabOk P Γ) {T : Nat} {x y : Operand} (ho : o.op = .store T x y) (hdst : o.dst = none) {r : Nat} {p : List Nat} {v : AV} (hx : ard S x = some (.at r p)) (hy : ard S y = some v)
    (hno : (arefs v).any (fun rp => hitA rp.1 rp.2 (.at r p)) = false) {v' : AV} {S' : List AV} (ht : atake S v = some (v', S')) {old : AV} (hold : aget S' r p = some old) (hk : Γ.kind T ≠ .no) (hsz : alen v' = Γ.size T) (hso : alen old = Γ.size T) :
    AO P o S (asetq S' r p v' old) := es_AO fun K w0 Z Sc a w e hG => by subst e; exact store_sound hT hG ho hdst hx hy hno ht hold hk hsz hso
theorem ao_extract {t i : Nat} (ho : o.op = .extract (.tmp t) i) {vs : List AV} {v : AV} (ht : S[t]? = some (.tup vs)) (hi : vs[i]? = some v) (hpl : plA v = true) : AO P o S (aput o.dst v (S.set t (.tup (vs.set i .undef)))) :=
  es_AO fun K w0 Z Sc a w e hG => by subst e; exact extract_sound hG ho ht hi hpl
theorem ao_movetup {t : Nat} (ho : o.op = .move (.tmp t)) {vs : List AV} (ht : S[t]? = some (.tup vs)) : AO P o S (aput o.dst (.tup vs) (S.set t .undef)) :=
  es_AO fun K w0 Z Sc a w e hG => by subst e; exact movetup_sound hG ho ht
theorem ao_make (hT : TabOk P Γ) {T E : Nat} {x y : Operand} (ho : o.op = .makeSlice T x y) (hk : Γ.kind T = .sl E) {z : AV} (hz : Γ.zero E = some z) (hE : Γ.kind E ≠ .no)
    {k1 k2 : IntKind} {n m : Nat} (hx : ard S x = some (.int k1 (n : Int))) (hy : ard S y = some (.int k2 (m : Int))) (hnm : n ≤ m) (hE0 : Γ.size E ≠ 0) (hb : Γ.bytes E * m ≤ 281474976710656) (hm : m ≤ maxLen) :
    AO P o S (aput o.dst (.lst true (Γ.size E) (List.replicate n z)) S) := es_AO fun K w0 Z Sc a w e hG => by subst e; exact make_sound hT hG ho hk hz hE hx hy hnm hE0 hb hm

/-- One step, told by computation, where it is no call. keep: an assigned list is looked at, not taken. -/
def ast (Γ : Tab) (keep : Bool) (S : List AV) (o : Oper) : Option (List AV) :=
  match o.op with
  | .assign x => match ard S x with
    | some v => if keep = true ∨ arefs v = [] then some (aput o.dst v S) else (match atake S v with | some (v', S') => some (aput o.dst v' S') | none => none)
    | none => none
  | .box _ x => match ard S x with
    | some v => (match atake S v with | some (v', S') => some (aput o.dst (.box v') S') | none => none)
    | none => none
  | .alloc T => match Γ.zero T with | some z => some (aput o.dst (.box z) S) | none => none
  | .store T x y => match o.dst, ard S x, ard S y with
    | none, some (.at r p), some v => if (arefs v).any (fun rp => hitA rp.1 rp.2 (.at r p)) = true then none else (match atake S v with
      | some (v', S') => (match aget S' r p with
        | some old => if Γ.kind T ≠ .no ∧ alen v' = Γ.size T ∧ alen old = Γ.size T then some (asetq S' r p v' old) else none
        | none => none)
      | none => none)
    | _, _, _ => none
  | .extract (.tmp t) i => match S[t]? with
    | some (.tup vs) => (match vs[i]? with | some v => if plA v = true then some (aput o.dst v (S.set t (.tup (vs.set i .undef)))) else none | none => none)
    | _ => none
  | _ => match qv Γ S o with | some v => some (aput o.dst v S) | none => none
theorem ast_AO (hT : TabOk P Γ) {keep : Bool} {S' : List AV} (h : ast Γ keep S o = some S') : AO P o S S' := by
  unfold ast at h
  split at h
  · rename_i x ho
    split at h
    · rename_i v hx
      split at h
      · rename_i hk
        simp only [Option.some.injEq] at h; subst h
        exact ao_assign_ref ho hx
      · split at h
        · rename_i v' S1 ht
          simp only [Option.some.injEq] at h; subst h
          exact ao_assign_take ho hx ht
        · cases h
    · cases h
  · rename_i T x ho
    split at h
    · rename_i v hx
      split at h
      · rename_i v' S1 ht
        simp only [Option.some.injEq] at h; subst h
        exact ao_box ho hx ht
      · cases h
    · cases h
  · rename_i T ho
    split at h
    · rename_i z hz
      simp only [Option.some.injEq] at h; subst h
      exact ao_alloc hT ho hz
    · cases h
  · rename_i T x y ho
    split at h
    · rename_i r p v hd hx hy
      split at h
      · cases h
      · rename_i hno
        split at h
        · rename_i v' S1 ht
          split at h
          · rename_i old hold
            split at h
            · rename_i hc
              simp only [Option.some.injEq] at h; subst h
              exact ao_store hT ho hd hx hy (by simpa using hno) ht hold hc.1 hc.2.1 hc.2.2
            · cases h
          · cases h
        · cases h
    · cases h
  · rename_i t i ho
    split at h
    · rename_i vs ht
      split at h
      · rename_i v hi
        split at h
        · rename_i hp
          simp only [Option.some.injEq] at h; subst h
          exact ao_extract ho ht hi hp
        · cases h
      · cases h
    · cases h
  · split at h
    · rename_i v hv
      simp only [Option.some.injEq] at h; subst h
      exact aq_AO hT hv
    · cases h
/-- A call whose arguments lean on nothing of the frame. -/
theorem al_call {f : Nat} {args : Array Operand} {ats : Array TypeId} {vs : List AV} {r : AV} {S' : List AV} (hg : gchk ops S o = some true) (ho : o.op = .call { callee := .value (.func f), args, argTypes := ats }) (hf : ∀ vs w, (callFunc f vs).run P w = .ok (.enter f vs) w)
    (hvs : ards S args.toList = some vs) (hpl : plAs vs = true) (hS : Sound P f vs r) (hp : aput o.dst r S = S') (h : AL P false ops l S' N) : AL P false ops (o :: l) S N := by
  subst hp
  exact al_op hg (call_AO ho hf hvs hpl hS) h
/-- A call that is shown what the frame holds. -/
theorem al_snap {f : Nat} {args : Array Operand} {ats : Array TypeId} {vs ps : List AV} {r : AV} {S' : List AV} (hg : gchk ops S o = some true) (ho : o.op = .call { callee := .value (.func f), args, argTypes := ats }) (hf : ∀ vs w, (callFunc f vs).run P w = .ok (.enter f vs) w)
    (hvs : ards S args.toList = some vs) (hps : asnaps S vs = some ps) (hS : Sound P f ps r) (hn : noSh r = true) (hp : aput o.dst r S = S') (h : AL P false ops l S' N) : AL P false ops (o :: l) S N := by
  subst hp
  exact al_op hg (call_snap ho hf hvs hps hS hn) h
theorem al_make (hT : TabOk P Γ) {T E : Nat} {x y : Operand} {z : AV} {k1 k2 : IntKind} {n m : Nat} {S' : List AV} (hg : gchk ops S o = some true) (ho : o.op = .makeSlice T x y) (hk : Γ.kind T = .sl E) (hz : Γ.zero E = some z) (hE : Γ.kind E ≠ .no)
    (hx : ard S x = some (.int k1 (n : Int))) (hy : ard S y = some (.int k2 (m : Int))) (hnm : n ≤ m) (hE0 : Γ.size E ≠ 0) (hb : Γ.bytes E * m ≤ 281474976710656) (hm : m ≤ maxLen) (hp : aput o.dst (.lst true (Γ.size E) (List.replicate n z)) S = S') (h : AL P false ops l S' N) : AL P false ops (o :: l) S N := by
  subst hp
  exact al_op hg (ao_make hT ho hk hz hE hx hy hnm hE0 hb hm) h
/-- A step by computation. -/
theorem al_s (hT : TabOk P Γ) (keep : Bool) {S' : List AV} (hg : gchk ops S o = some true) (hv : ast Γ keep S o = some S') (h : AL P false ops l S' N) : AL P false ops (o :: l) S N := al_op hg (ast_AO hT hv) h
end
end Go.Bv
