/- FnExactMatches returns true of every two texts, which read as they did; its tied card. -/
import Derived.Test.YtkfnhoblcfgamaaDoorFnNg
import Derived.Test.YtkfnhoblcfgamaaDoorBvLb
import Derived.Test.YtkfnhoblcfgamaaDoorLwT
import Derived.Test.YtkfnhoblcfgamaaDoorCards
import Derived.Test.YtkfnhoblcfgamaaDoorTie
import Derived.LaidOnce
import Derived.MakeChecks
import Derived.Lay
import Derived.SevenTiedAt
namespace Go.Proofs.YtkfnhoblcfgamaaDoor
open Go Go.RowKit Go.Bv
set_option linter.unusedSimpArgs false
set_option linter.unusedVariables false
theorem s_FnExactMatches {xs : List AV} (h : TyAll Tryd.prog [9, 9] xs) : Sound P 5 xs (.bool true) := by
  obtain ⟨x, y, rfl, hx, hy⟩ := tyAll_two h
  obtain ⟨s, rfl, hs⟩ := ty_String hx
  obtain ⟨t, rfl, ht⟩ := ty_String hy
  exact c_laws_FnExactMatches s t rfl rfl hs ht
set_option maxRecDepth 100000 in
theorem lifted_FnExactMatches (os : Os) (started : os.Started) (H : Type) (enc : TypeId × Value → H) :
    ReturnsInHanded {} Tryd.checked os 5 .any (fun w args => (Rows.fnExactMatchesSpec.pre enc Tryd.prog Tryd.f5 [] false w args ∧ laidMetH Tryd.prog Rows.fnExactMatchesRow.laid w) ∧ sizedMet enc Tryd.prog Tryd.f5 (OpenSpec.ofChange Rows.fnExactMatchesSpec) false w args) (Rows.fnExactMatchesSpec.post enc Tryd.prog Tryd.f5 false true false false) := by
  refine law_lifted_and (C := Tryd.checked) (X := fun w => laidMetH Tryd.prog Rows.fnExactMatchesRow.laid w) own started (by kernel_rfl) Tryd.func5
    (ChangeSpec.witness_shaped (enc := enc) (C := Tryd.checked) (os := os) (X := fun w _ => laidMetH Tryd.prog Rows.fnExactMatchesRow.laid w) false (World.laidAll Tryd.prog os Rows.fnExactMatchesRow.laid) #[.string ⟨#[]⟩, .string ⟨#[]⟩] 8 (World.laidAll_os _ _ _)
      (World.shaped_of_ZipB (by kernel_rfl) (by kernel_rfl)) (by kernel_rfl) (by kernel_rfl) (by kernel_rfl)
      (by rw [MakeChecks.laidMetH_plain _ _ _ (by kernel_rfl)]; exact laidMet_laidAll _ (by kernel_rfl) (by kernel_rfl)))
    laidOut rfl (by kernel_rfl) (rt := 4) rfl Tryd.underlying4 ?_ gw ?_
  · intro ds h
    rw [Tryd.params5] at h
    obtain ⟨d, e, rfl⟩ := lens_two h
    exact ⟨rfl, rfl, rfl⟩
  · intro xs h
    rw [Tryd.params5] at h
    exact s_FnExactMatches h
theorem over_FnExactMatches : Rows.fnExactMatchesRow.holds Tryd.pinned (OpenSpec.ofChange Rows.fnExactMatchesSpec) :=
  OpenClaim.holds_of_wide 5 Tryd.f5 rfl rfl rfl rfl rfl rfl rfl ⟨rfl, rfl, rfl, rfl, rfl⟩ rfl rfl rfl rfl rfl (by kernel_rfl) Tryd.func5 (by kernel_rfl)
    (of_decide_eq_true (by kernel_rfl)) (by unfold Func.isWrapper; first | (rw [if_pos (by decide +kernel)]; kernel_rfl) | (rw [if_neg (by decide +kernel)]; exact ⟨rfl, rfl⟩))
    (fun os started H enc _ => lifted_FnExactMatches os started H enc)
/-- The tied card, for the claim. -/
theorem fnExactMatchesCard_holds : Rows.FnExactMatchesCardSaid :=
  Claim7.holds_tied_plain_at .later [] [.data, .pinned] true (true, "7214ee02c2f9b6b0d42b9ed0ffac32bcf368616e99dc256f690e6714f48af2ad") false over_FnExactMatches (fun _ h => by cases h) (by kernel_rfl) (fun _ h => by cases h) fnExactMatches_row_tie rfl ⟨rfl, rfl⟩ (by kernel_rfl) rfl
    (fun f fn hf hfn => by
      obtain rfl : f = 5 := Option.some.inj ((show Tryd.prog.funcNamed "loop.example/g00098/laws.FnExactMatches" = some 5 by kernel_rfl).symm.trans hf) |>.symm
      obtain rfl : fn = Tryd.f5 := (Option.some.inj (Tryd.func5.symm.trans hfn)).symm
      exact ⟨by kernel_rfl, fun j t ht => by
        rw [Tryd.params5] at ht
        have hm : t ∈ [9, 9] := by simpa using Array.mem_of_getElem? ht
        have hall : ([9, 9].all fun u => !Tryd.prog.wantsStandIn u) = true := by kernel_rfl
        exact (show Tryd.prog.wantsStandIn t = false by simpa using List.all_eq_true.1 hall t hm)⟩)
    (by kernel_rfl)
#print axioms fnExactMatchesCard_holds
end Go.Proofs.YtkfnhoblcfgamaaDoor
