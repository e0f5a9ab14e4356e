/- Rules for code over by-value frames. Generic: no program. -/
import Derived.Test.YtjmodjanaeoiiaaBvS
import Derived.Still
import Derived.Deep.LoopGhost
namespace Go.Bv
open Go Go.RowKit
set_option linter.unusedSimpArgs false
set_option linter.unusedVariables false

/-- b: blocks that are kept. f: real slots that stand. -/
structure Kp where
  b : Nat → Prop
  f : Nat → Option Value
/-- This slot is none that stands. -/
def Kp.free (K : Kp) : Option Nat → Prop
  | none => True
  | some d => K.f d = none
/-- No operation writes a slot that stands. -/
def Kp.frees (K : Kp) : Code → Prop
  | .region _ ops _ => ∀ o ∈ ops.toList, K.free o.dst
  | .seq x y => K.frees x ∧ K.frees y
  | .cond _ x y => K.frees x ∧ K.frees y
  | .block _ c => K.frees c
  | .loop c => K.frees c
  | _ => True
theorem Kp.free_none (b : Nat → Prop) (d : Option Nat) : (Kp.mk b fun _ => none).free d := by cases d <;> simp [Kp.free]
theorem Kp.frees_none (b : Nat → Prop) (c : Code) : (Kp.mk b fun _ => none).frees c := by
  induction c <;> simp_all [Kp.frees, Kp.free_none]

/-- The frame stands, by value, at S. -/
def At0 (K : Nat → Prop) (w0 : World) (Z0 : Nat → Prop) (S : List AV) (a : Act) (w : World) : Prop :=
  ∃ Z Sc, (∀ b, Z0 b → Z b) ∧ (∀ b, Z b → Z0 b ∨ w0.heap.size ≤ b) ∧ ers Sc = S ∧ Good K w0 Z Sc [] a w
def At (K : Kp) (w0 : World) (Z0 : Nat → Prop) (S : List AV) (a : Act) (w : World) : Prop :=
  At0 K.b w0 Z0 S a w ∧ ∀ t v, K.f t = some v → a.tmps[t]? = some v

/-- An operation turns S into S'. -/
def AO0 (P : Program) (o : Oper) (S S' : List AV) : Prop :=
  ∀ K w0 Z0 a w, At0 K w0 Z0 S a w → ∀ Q, o.wp P a w (fun a' w' => At0 K w0 Z0 S' a' w') Q
def AO (P : Program) (o : Oper) (S S' : List AV) : Prop :=
  ∀ (K : Kp) w0 Z0 a w, K.free o.dst → At K w0 Z0 S a w → ∀ Q, o.wp P a w (fun a' w' => At K w0 Z0 S' a' w') Q
/-- Code, from S: where it may end. -/
def AW (P : Program) (c : Code) (S : List AV) (Q : Exit → List AV → Prop) : Prop :=
  ∀ (K : Kp) w0 Z0 a w, K.frees c → At K w0 Z0 S a w → c.wp P (fun e a' w' => ∃ S', Q e S' ∧ At K w0 Z0 S' a' w') a w

theorem put_other {a : Act} {dst : Option Nat} {v : Value} {t : Nat} (h : dst ≠ some t) : (a.put dst v).tmps[t]? = a.tmps[t]? := by
  cases dst with
  | none => rfl
  | some d =>
    simp only [Act.put]
    exact Array.getElem?_setIfInBounds_ne (fun e => h (by rw [e]))
theorem wp_fix {P : Program} {o : Oper} {a : Act} {w : World} {N : Act → World → Prop} {Q : Exit → Act → World → Prop} (h : o.wp P a w N Q) :
    o.wp P a w (fun a' w' => N a' w' ∧ ∀ t, o.dst ≠ some t → a'.tmps[t]? = a.tmps[t]?) Q := by
  unfold Oper.wp at *
  generalize (execOp a.eval o).run P w = r at *
  cases r with
  | ok n w' =>
    cases n <;> simp only [Oper.upon] at h ⊢ <;>
      first
        | exact ⟨h, fun t ht => put_other ht⟩
        | exact ⟨h, fun t ht => rfl⟩
        | exact Calls.mono h (fun e w'' he => by cases e <;> first | exact ⟨he, fun t ht => put_other ht⟩ | exact he)
        | exact Rows.mono h (fun _ _ he => ⟨he, fun t ht => put_other ht⟩)
  | halt x w' => cases x <;> simp only [Oper.upon] at h ⊢ <;> exact h
theorem ao_of {P : Program} {o : Oper} {S S' : List AV} (h : AO0 P o S S') : AO P o S S' := fun K w0 Z0 a w hf hA Q =>
  Oper.wp_mono (fun a' w' ⟨h1, h2⟩ => ⟨h1, fun t v ht => by
    rw [h2 t (fun e => by rw [e] at hf; simp only [Kp.free] at hf; rw [hf] at ht; cases ht)]
    exact hA.2 t v ht⟩) (wp_fix (h K.b w0 Z0 a w hA.1 Q))

def thenA (N : List AV → Prop) (Q : Exit → List AV → Prop) : Exit → List AV → Prop
  | .normal, S => N S
  | e, S => Q e S
def blockA (id : Nat) (Q : Exit → List AV → Prop) : Exit → List AV → Prop
  | .exit i, S => if i = id then Q .normal S else Q (.exit i) S
  | e, S => Q e S

section
variable {P : Program} {Γ : Tab} {S : List AV} {Q : Exit → List AV → Prop}

theorem aw_mono {c : Code} {Q' : Exit → List AV → Prop} (h : AW P c S Q) (hq : ∀ e S, Q e S → Q' e S) : AW P c S Q' :=
  fun K w0 Z0 a w hF hA => wp_mono (h K w0 Z0 a w hF hA) fun e a' w' ⟨S', q, hS⟩ => ⟨S', hq e S' q, hS⟩
theorem aw_skip (h : Q .normal S) : AW P .skip S Q := fun _ _ _ _ _ _ hA => wp_skip ⟨S, h, hA⟩
theorem aw_exit {id : Nat} (h : Q (.exit id) S) : AW P (.exit id) S Q := fun _ _ _ _ _ _ hA => wp_exit ⟨S, h, hA⟩
theorem aw_ret (h : Q .ret S) : AW P .ret S Q := fun _ _ _ _ _ _ hA => wp_ret ⟨S, h, hA⟩
theorem aw_seq {x y : Code} (h : AW P x S (thenA (fun S' => AW P y S' Q) Q)) : AW P (.seq x y) S Q := fun K w0 Z0 a w hF hA =>
  wp_seq (wp_mono (h K w0 Z0 a w hF.1 hA) fun e a' w' ⟨S', q, hS⟩ => by
    cases e with
    | normal => exact q K w0 Z0 a' w' hF.2 hS
    | _ => exact ⟨S', q, hS⟩)
theorem aw_block {id : Nat} {c : Code} (h : AW P c S (blockA id Q)) : AW P (.block id c) S Q := fun K w0 Z0 a w hF hA =>
  wp_block (wp_mono (h K w0 Z0 a w hF hA) fun e a' w' ⟨S', q, hS⟩ => by
    cases e with
    | exit i =>
      simp only [Exit.inBlock, blockA] at q ⊢
      split
      · rename_i hi; simp only [hi, if_true] at q; exact ⟨S', q, hS⟩
      · rename_i hi; simp only [hi, if_false] at q; exact ⟨S', q, hS⟩
    | _ => exact ⟨S', q, hS⟩)
theorem At.bool {K : Kp} {w0 : World} {Z0 : Nat → Prop} {a : Act} {w : World} (h : At K w0 Z0 S a w) {x : Operand} {t : Bool} (hx : ard S x = some (.bool t)) : a.eval x = .bool t := by
  obtain ⟨⟨Z, Sc, _, _, rfl, hG⟩, _⟩ := h
  obtain ⟨c, e1, e2, _⟩ := hG.rd hx
  rw [er_bool e1] at e2
  rw [← e2]; rfl
theorem aw_cond {c : Operand} {x y : Code} {t : Bool} (hc : ard S c = some (.bool t)) (h1 : t = true → AW P x S Q) (h2 : t = false → AW P y S Q) : AW P (.cond c x y) S Q := fun K w0 Z0 a w hF hA =>
  wp_cond_split (hA.bool hc) (fun ht => h1 ht K w0 Z0 a w hF.1 hA) (fun ht => h2 ht K w0 Z0 a w hF.2 hA)

/-- Slots that are no longer needed. -/
def clr (S : List AV) : List Nat → List AV
  | [] => S
  | t :: ts => clr (aput (some t) .undef S) ts
theorem At.clr1 {K : Kp} {w0 : World} {Z0 : Nat → Prop} {a : Act} {w : World} (h : At K w0 Z0 S a w) (t : Nat) : At K w0 Z0 (aput (some t) .undef S) a w := by
  obtain ⟨⟨Z, Sc, z1, z2, rfl, hG⟩, hfx⟩ := h
  have hp := hG.putq (some t) (c := .undef (a.tmps.getD t undef)) (by simp [RefOk]) (by simp [Wf]) (by simp [Ok]) (by simp [NoOwn])
  refine ⟨⟨Z, cput (some t) (.undef (a.tmps.getD t undef)) Sc, z1, z2, ?_, ?_⟩, hfx⟩
  · rw [er_cput]; simp [er]
  · have : a.put (some t) (val (.undef (a.tmps.getD t undef))) = a := by
      rw [val_undef]
      cases a with
      | mk tmps defers =>
        simp only [Act.put]
        congr 1
        apply Array.ext
        · simp
        · intro i h1 h2
          rw [Array.getElem_setIfInBounds h2]
          split
          · rename_i e; subst e; simp [Array.getD, h2]
          · rfl
    rw [this] at hp
    exact hp
theorem At.clrs {K : Kp} {w0 : World} {Z0 : Nat → Prop} {a : Act} {w : World} : ∀ (ts : List Nat) {S : List AV}, At K w0 Z0 S a w → At K w0 Z0 (clr S ts) a w
  | [], _, h => h
  | t :: ts, _, h => At.clrs ts (h.clr1 t)

theorem aw_loop {c : Code} (ts : List Nat) (I : Nat → List AV → Prop) (n0 : Nat) (h0 : I n0 (clr S ts))
    (round : ∀ n S, I n S → AW P c S (thenA (fun S' => ∃ n', n' < n ∧ I n' (clr S' ts)) Q)) : AW P (.loop c) S Q := fun K w0 Z0 a w hF hA =>
  wp_loop_ghost (fun n a w => ∃ S, I n S ∧ At K w0 Z0 S a w) n0 ⟨_, h0, hA.clrs ts⟩ fun n a w ⟨S, hI, hS⟩ =>
    wp_mono (round n S hI K w0 Z0 a w hF hS) fun e a' w' ⟨S', q, hS'⟩ => by
      cases e with
      | normal => obtain ⟨n', hlt, hI'⟩ := q; exact ⟨n', hlt, _, hI', hS'.clrs ts⟩
      | _ => exact ⟨S', q, hS'⟩
theorem aw_clr {c : Code} (ts : List Nat) (h : AW P c (clr S ts) Q) : AW P c S Q := fun K w0 Z0 a w hF hA => h K w0 Z0 a w hF (hA.clrs ts)

/-! ### regions -/
/-- A list of operations, one behind the other. -/
def AR (P : Program) (ops : Array Oper) : List Oper → List AV → (List AV → Prop) → Prop := fun l S N =>
  ∀ (K : Kp) w0 Z0 a w, (∀ o ∈ l, K.free o.dst) → At K w0 Z0 S a w → ∀ (Q : Exit → Act → World → Prop), (∀ S' a' w', N S' → At K w0 Z0 S' a' w' → Q .normal a' w') → ∀ k, (∀ j, l[j]? = ops[k + j]?) → wpOps P ops Q (List.range' k l.length) a w
theorem ar_nil {ops : Array Oper} {N : List AV → Prop} (h : N S) : AR P ops [] S N := fun K w0 Z0 a w _ hA Q hQ k _ => by
  simp only [List.length_nil, List.range'_zero, wpOps]
  exact hQ S a w h hA
theorem wanted_none {o : Oper} (h : o.guard = none) (y : Nat → Option Bool) : Region.wanted o y = true := by simp [Region.wanted, h]
theorem ar_op {ops : Array Oper} {o : Oper} {l : List Oper} {S' : List AV} {N : List AV → Prop} (hg : o.guard = none) (ho : AO P o S S') (h : AR P ops l S' N) : AR P ops (o :: l) S N := fun K w0 Z0 a w hF hA Q hQ k hk => by
  have h0 : ops[k]? = some o := by have := hk 0; simpa using this.symm
  simp only [List.length_cons, List.range'_succ, wpOps, h0, wanted_none hg, if_true]
  refine .inl (Oper.wp_mono (fun a' w' hA' => h K w0 Z0 a' w' (fun q hq => hF q (by simp [hq])) hA' Q hQ (k + 1) fun j => ?_) (ho K w0 Z0 a w (hF o (by simp)) hA Q))
  have := hk (j + 1)
  rw [List.getElem?_cons_succ] at this
  rw [this]; congr 1; omega
theorem aw_region {id : Nat} {l : List Oper} {N : List AV → Prop} (h : AR P l.toArray l S N) (hN : ∀ S', N S' → Q .normal S') : AW P (.region id l.toArray false) S Q := fun K w0 Z0 a w hF hA => by
  refine wp_region ?_
  have := h K w0 Z0 a w (by simpa [Kp.frees] using hF) hA (fun e a' w' => ∃ S', Q e S' ∧ At K w0 Z0 S' a' w') (fun S' a' w' n hS => ⟨S', hN S' n, hS⟩) 0 (fun j => by simp)
  rw [List.range_eq_range']
  simpa using this
theorem At.drawn {K : Kp} {w0 : World} {Z0 : Nat → Prop} {a : Act} {w : World} (h : At K w0 Z0 S a w) : At K w0 Z0 S a { w with drawn := w.drawn + 1 } := by
  obtain ⟨⟨Z, Sc, z1, z2, e, hG⟩, hfx⟩ := h
  exact ⟨⟨Z, Sc, z1, z2, e, hG.world (fun _ _ => rfl) (Nat.le_refl _) rfl rfl rfl⟩, hfx⟩

/-! ### the quiet ones, by computation -/
/-- One quiet operation, told by the plain step. -/
def aq (Γ : Tab) (S : List AV) (o : Oper) : Option (List AV) := match o.guard with
  | none => (match qv Γ S o with | some v => some (aput o.dst v S) | none => none)
  | some _ => none
def aqs (Γ : Tab) : List Oper → List AV → Option (List AV)
  | [], S => some S
  | o :: l, S => match aq Γ S o with | some S' => aqs Γ l S' | none => none

theorem qv_step (hT : TabOk P Γ) {o : Oper} {v : AV} (hv : qv Γ S o = some v) {K : Kp} {w0 : World} {Z0 : Nat → Prop} {a : Act} {w : World} (hf : K.free o.dst) (hA : At K w0 Z0 S a w) :
    ∃ u, (execOp a.eval o).run P w = .ok (.value u) w ∧ At K w0 Z0 (aput o.dst v S) (a.put o.dst u) w := by
  obtain ⟨⟨Z, Sc, z1, z2, rfl, hG⟩, hfx⟩ := hA
  obtain ⟨c, e1, hr, hrd, _⟩ := qv_sound hT hG hv
  refine ⟨val c, hr, ⟨Z, cput o.dst c Sc, z1, z2, by rw [er_cput, e1], hG.putRd o.dst hrd⟩, fun t v ht => ?_⟩
  rw [put_other (fun e => by rw [e] at hf; simp only [Kp.free] at hf; rw [hf] at ht; cases ht)]
  exact hfx t v ht
theorem aq_AO (hT : TabOk P Γ) {o : Oper} {v : AV} (hv : qv Γ S o = some v) : AO P o S (aput o.dst v S) := fun K w0 Z0 a w hf hA Q => by
  obtain ⟨u, hr, hS⟩ := qv_step hT hv hf hA
  unfold Oper.wp
  rw [hr]
  exact hS
theorem aqs_ar (hT : TabOk P Γ) {ops : Array Oper} {N : List AV → Prop} : ∀ (l1 : List Oper) {l2 : List Oper} {S S' : List AV}, aqs Γ l1 S = some S' → AR P ops l2 S' N → AR P ops (l1 ++ l2) S N
  | [], l2, S, S', h, h2 => by simp only [aqs, Option.some.injEq] at h; subst h; exact h2
  | o :: l1, l2, S, S', h, h2 => by
    simp only [aqs, aq] at h
    split at h
    · rename_i S1 h1
      split at h1
      · rename_i hg
        split at h1
        · rename_i v hv
          simp only [Option.some.injEq] at h1
          subst h1
          exact ar_op hg (aq_AO hT hv) (aqs_ar hT l1 h h2)
        · cases h1
      · cases h1
    · cases h
theorem aw_quiet (hT : TabOk P Γ) {id : Nat} {l : List Oper} {S' : List AV} (h : aqs Γ l S = some S') (hQ : Q .normal S') : AW P (.region id l.toArray false) S Q :=
  aw_region (N := fun S2 => S2 = S') (by have := aqs_ar hT (ops := l.toArray) (N := fun S2 => S2 = S') l (l2 := []) h (ar_nil rfl); simpa using this) (fun _ e => e ▸ hQ)
end
end Go.Bv
