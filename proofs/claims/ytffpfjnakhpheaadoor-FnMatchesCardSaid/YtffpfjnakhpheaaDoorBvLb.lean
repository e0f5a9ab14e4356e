/- A law's row where package variables are laid: lifted. Generic: no program. -/
import Derived.Test.YtffpfjnakhpheaaDoorBvLa
import Derived.Handed
namespace Go.Bv
open Go Go.RowKit Go.ChangeShapes Go.WideShapes
set_option linter.unusedSimpArgs false
set_option linter.unusedVariables false
theorem law_lifted_and {C : Checked} {os : Os} {f : Nat} {fn : Func} {s : ChangeSpec} {H : Type} {X : World → Prop} {enc : TypeId × Value → H}
    (own : ownKnob C.prog.godebug = none) (started : os.Started) (noInit : C.prog.inits.idxOf? f = none) (hfn : C.prog.funcs[f]? = some fn)
    (witness : ∃ (w : World) (tape : Tape) (i : Input), w.os = os ∧ (w.forCall tape i).Shaped C.prog ∧ i.vars = [] ∧ Input.okWide C.prog (w.forCall tape i) .any w.heap.size f i ∧
      ((s.pre enc C.prog fn [] false (w.forCall tape i).memory i.args ∧ X (w.forCall tape i).memory) ∧ sizedMet enc C.prog fn (OpenSpec.ofChange s) false (w.forCall tape i).memory i.args) ∧ ({} : Assume).holds C.prog (lone (Frame.enter C.prog f i.args .normal) [] (w.forCall tape i)))
    (hl : laidOutB C.prog = true) (hv : s.vars = []) (hpar0 : fn.params.toList.all (parB C.prog) = true) {rt : Nat} (hrt : fn.resultTypes.toList = [rt]) (hru : C.prog.underlying rt = some .bool)
    (hsp : ∀ ds : List (DataW H), ds.length = fn.params.size → (s.fn H ds).results = [.lit (.bool true)] ∧ (s.fn H ds).args = ds ∧ (s.fn H ds).vars = [])
    (hgm : ∀ w : World, w.ShapedOpen C.prog → GW C.prog w []) (hS : ∀ xs, TyAll C.prog fn.params.toList xs → Sound C.prog f xs (.bool true)) :
    ReturnsInHanded {} C os f .any (fun w args => (s.pre enc C.prog fn [] false w args ∧ X w) ∧ sizedMet enc C.prog fn (OpenSpec.ofChange s) false w args) (s.post enc C.prog fn false true false false) := by
  have hpar := List.all_eq_true.1 hpar0
  have hp1 : ∀ t ∈ fn.params.toList, byv C.prog 9 t = true ∧ isVar C.prog t = true := fun t ht => by have := hpar t ht; simp only [parB, Bool.and_eq_true] at this; exact this.1.1
  have hp2 : ∀ t ∈ fn.params.toList, C.prog.readableRec t = true ∧ t < C.prog.types.size := fun t ht => by have := hpar t ht; simp only [parB, Bool.and_eq_true, decide_eq_true_eq] at this; exact ⟨this.1.2, this.2⟩
  have core : ∀ (W : World) (base : Nat) (args : Array Value) (ds gs : List (DataW H)) (before : List MemPlace),
      (∀ (j : Nat) t v, fn.params[j]? = some t → args[j]? = some v → Value.okWide C.prog W .any base t v) →
      DataW.Whole enc C.prog fn.params.toList s.vars false W args.toList ds gs before →
      (DataW.weightsEach C.prog (fn.params.toList ++ s.plain.varTypes C.prog) (ds ++ gs)).all (· ≤ reachBytes) = true →
      W.ShapedOpen C.prog →
      Calls C.prog f args W fun e W' => ∃ v, e = .returned v ∧ s.post enc C.prog fn false true false false W args v W' := by
    intro W base args ds gs before hval hW hsz hsh
    have hW' := hW
    obtain ⟨p, q, hA, hV, rfl, _, _⟩ := hW
    rw [hv] at hV
    obtain ⟨rfl, rfl⟩ := trodVars_none hV
    have hwt : ∀ n ∈ DataW.weightsEach C.prog fn.params.toList ds, n ≤ reachBytes := fun n hn => by
      have hvt : s.plain.varTypes C.prog = [] := by unfold DataSpec.varTypes ChangeSpec.plain; simp [hv]
      rw [hvt, List.append_nil, List.append_nil] at hsz
      have := List.all_eq_true.1 hsz n hn
      simpa using this
    obtain ⟨cs, c1, c2, c3, c4, c5⟩ := open_args hl hp1 (fun j t v ht hv => hval j t v (by simpa using ht) (by simpa using hv)) hA hwt
    have hargs : args = (cs.map val).toArray := by rw [c1]
    have hlt : ∀ x ∈ p, x.block < W.heap.size := DataW.TrodAll.lt hA
    have hdl : ds.length = fn.params.size := by
      clear hW' c1 hargs hlt hval
      have : ∀ {ts : List Nat} {vs : List Value} {ds : List (DataW H)} {ps : List MemPlace}, DataW.TrodAll enc C.prog W 0 (fun _ => true) true ts vs ds ps → ds.length = ts.length := by
        intro ts
        induction ts with
        | nil => intro vs ds ps h; cases vs <;> cases ds <;> simp_all [DataW.TrodAll]
        | cons t ts ih =>
          intro vs ds ps h
          cases vs <;> cases ds <;> simp only [DataW.TrodAll] at h
          obtain ⟨_, _, _, h, _⟩ := h
          simp [ih h]
      simpa using this hA
    subst hargs
    refine (law_walk c2 c3 c4 (hgm _ hsh) (hS _ c5)).mono fun e W' ⟨he, bel⟩ => ?_
    subst he
    obtain ⟨s1, s2, s3⟩ := hsp ds hdl
    refine ⟨_, rfl, ds, [], _, [], p, [], hW', ?_, ?_, ?_, bel.frame _, fun h => by cases h⟩
    · rw [List.append_nil, s1, hrt]
      have : fn.resultTypes.size = 1 := by rw [← Array.length_toList, hrt]; rfl
      rw [this]
      exact trodAll_mk1 (shut_bool hru _)
    · rw [List.append_nil, s2]; exact back_args hl bel hp2 hA hlt
    · rw [List.append_nil, s3, hv]; rfl
  refine returnsInHanded_of_calls own started noInit witness ?_
  intro w tape i _ hsh _ hok hpre _
  obtain ⟨_, _, _, fn', hfn', _, _, _, _, hval⟩ := hok
  have e : fn' = fn := Option.some.inj (hfn'.symm.trans hfn)
  subst e
  obtain ⟨⟨⟨ds, gs, before, hw, _⟩, _⟩, hz⟩ := hpre
  refine (core (w.forCall tape i) w.heap.size i.args ds gs before hval (DataW.Whole.of_heap (w' := w.forCall tape i) (by rfl) hw) (hz.weights hw) hsh).mono fun e W' ⟨v, he, hp⟩ => ?_
  subst he
  exact ChangeSpec.post_blind hp
end Go.Bv
