/- FnExactPatternOk returns true of every text, which reads as it did; its tied card. -/
import Derived.Test.YtkfnhoblcfgamaaDoorFnNe
import Derived.Test.YtkfnhoblcfgamaaDoorBvLb
import Derived.Test.YtkfnhoblcfgamaaDoorLwT
import Derived.Test.YtkfnhoblcfgamaaDoorCards
import Derived.Test.YtkfnhoblcfgamaaDoorTie
import Derived.LaidOnce
import Derived.MakeChecks
import Derived.Lay
import Derived.SevenTiedAt
namespace Go.Proofs.YtkfnhoblcfgamaaDoor
open Go Go.RowKit Go.Bv
set_option linter.unusedSimpArgs false
set_option linter.unusedVariables false
theorem s_FnExactPatternOk {xs : List AV} (h : TyAll Tryd.prog [9] xs) : Sound P 3 xs (.bool true) := by
  obtain ⟨x, rfl, hx⟩ := tyAll_one h
  obtain ⟨s, rfl, hs⟩ := ty_String hx
  exact c_laws_FnExactPatternOk s rfl hs
set_option maxRecDepth 100000 in
theorem lifted_FnExactPatternOk (os : Os) (started : os.Started) (H : Type) (enc : TypeId × Value → H) :
    ReturnsInHanded {} Tryd.checked os 3 .any (fun w args => (Rows.fnExactPatternOkSpec.pre enc Tryd.prog Tryd.f3 [] false w args ∧ laidMetH Tryd.prog Rows.fnExactPatternOkRow.laid w) ∧ sizedMet enc Tryd.prog Tryd.f3 (OpenSpec.ofChange Rows.fnExactPatternOkSpec) false w args) (Rows.fnExactPatternOkSpec.post enc Tryd.prog Tryd.f3 false true false false) := by
  refine law_lifted_and (C := Tryd.checked) (X := fun w => laidMetH Tryd.prog Rows.fnExactPatternOkRow.laid w) own started (by kernel_rfl) Tryd.func3
    (ChangeSpec.witness_shaped (enc := enc) (C := Tryd.checked) (os := os) (X := fun w _ => laidMetH Tryd.prog Rows.fnExactPatternOkRow.laid w) false (World.laidAll Tryd.prog os Rows.fnExactPatternOkRow.laid) #[.string ⟨#[]⟩] 8 (World.laidAll_os _ _ _)
      (World.shaped_of_ZipB (by kernel_rfl) (by kernel_rfl)) (by kernel_rfl) (by kernel_rfl) (by kernel_rfl)
      (by rw [MakeChecks.laidMetH_plain _ _ _ (by kernel_rfl)]; exact laidMet_laidAll _ (by kernel_rfl) (by kernel_rfl)))
    laidOut rfl (by kernel_rfl) (rt := 4) rfl Tryd.underlying4 ?_ gw ?_
  · intro ds h
    rw [Tryd.params3] at h
    obtain ⟨d, rfl⟩ := lens_one h
    exact ⟨rfl, rfl, rfl⟩
  · intro xs h
    rw [Tryd.params3] at h
    exact s_FnExactPatternOk h
theorem over_FnExactPatternOk : Rows.fnExactPatternOkRow.holds Tryd.pinned (OpenSpec.ofChange Rows.fnExactPatternOkSpec) :=
  OpenClaim.holds_of_wide 3 Tryd.f3 rfl rfl rfl rfl rfl rfl rfl ⟨rfl, rfl, rfl, rfl, rfl⟩ rfl rfl rfl rfl rfl (by kernel_rfl) Tryd.func3 (by kernel_rfl)
    (of_decide_eq_true (by kernel_rfl)) (by unfold Func.isWrapper; first | (rw [if_pos (by decide +kernel)]; kernel_rfl) | (rw [if_neg (by decide +kernel)]; exact ⟨rfl, rfl⟩))
    (fun os started H enc _ => lifted_FnExactPatternOk os started H enc)
/-- The tied card, for the claim. -/
theorem fnExactPatternOkCard_holds : Rows.FnExactPatternOkCardSaid :=
  Claim7.holds_tied_plain_at .later [] [.data, .pinned] true (true, "7214ee02c2f9b6b0d42b9ed0ffac32bcf368616e99dc256f690e6714f48af2ad") false over_FnExactPatternOk (fun _ h => by cases h) (by kernel_rfl) (fun _ h => by cases h) fnExactPatternOk_row_tie rfl ⟨rfl, rfl⟩ (by kernel_rfl) rfl
    (fun f fn hf hfn => by
      obtain rfl : f = 3 := Option.some.inj ((show Tryd.prog.funcNamed "loop.example/g00098/laws.FnExactPatternOk" = some 3 by kernel_rfl).symm.trans hf) |>.symm
      obtain rfl : fn = Tryd.f3 := (Option.some.inj (Tryd.func3.symm.trans hfn)).symm
      exact ⟨by kernel_rfl, fun j t ht => by
        rw [Tryd.params3] at ht
        have hm : t ∈ [9] := by simpa using Array.mem_of_getElem? ht
        have hall : ([9].all fun u => !Tryd.prog.wantsStandIn u) = true := by kernel_rfl
        exact (show Tryd.prog.wantsStandIn t = false by simpa using List.all_eq_true.1 hall t hm)⟩)
    (by kernel_rfl)
#print axioms fnExactPatternOkCard_holds
end Go.Proofs.YtkfnhoblcfgamaaDoor
