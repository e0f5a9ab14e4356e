/- FnMatches returns true of every code, which reads as it did; its tied card. -/
import Derived.Test.YtffpfjnakhpheaaDoorFnMu
import Derived.Test.YtffpfjnakhpheaaDoorGyCode
import Derived.Test.YtffpfjnakhpheaaDoorBvLb
import Derived.Test.YtffpfjnakhpheaaDoorLwT
import Derived.Test.YtffpfjnakhpheaaDoorCards
import Derived.Test.YtffpfjnakhpheaaDoorTie
import Derived.LaidOnce
import Derived.MakeChecks
import Derived.Lay
import Derived.SevenTiedAt
namespace Go.Proofs.YtffpfjnakhpheaaDoor
open Go Go.RowKit Go.Bv
set_option linter.unusedSimpArgs false
set_option linter.unusedVariables false
theorem s_FnMatches {xs : List AV} (h : TyAll Tryd.prog [22] xs) : Sound P 3 xs (.bool true) := by
  obtain ⟨x, rfl, hx⟩ := tyAll_one h
  obtain ⟨f, rfl, hl, hf⟩ := ty_Code hx
  exact c_laws_FnMatches f rfl hl hf
set_option maxRecDepth 100000 in
theorem lifted_FnMatches (os : Os) (started : os.Started) (H : Type) (enc : TypeId × Value → H) :
    ReturnsInHanded {} Tryd.checked os 3 .any (fun w args => (Rows.fnMatchesSpec.pre enc Tryd.prog Tryd.f3 [] false w args ∧ laidMetH Tryd.prog Rows.fnMatchesRow.laid w) ∧ sizedMet enc Tryd.prog Tryd.f3 (OpenSpec.ofChange Rows.fnMatchesSpec) false w args) (Rows.fnMatchesSpec.post enc Tryd.prog Tryd.f3 false true false false) := by
  refine law_lifted_and (C := Tryd.checked) (X := fun w => laidMetH Tryd.prog Rows.fnMatchesRow.laid w) own started (by kernel_rfl) Tryd.func3
    (ChangeSpec.witness_shaped (enc := enc) (C := Tryd.checked) (os := os) (X := fun w _ => laidMetH Tryd.prog Rows.fnMatchesRow.laid w) false (World.laidAll Tryd.prog os Rows.fnMatchesRow.laid) #[.slice none 0 0] 8 (World.laidAll_os _ _ _)
      (World.shaped_of_ZipB (by kernel_rfl) (by kernel_rfl)) (by kernel_rfl) (by kernel_rfl) (by kernel_rfl)
      (by rw [MakeChecks.laidMetH_plain _ _ _ (by kernel_rfl)]; exact laidMet_laidAll _ (by kernel_rfl) (by kernel_rfl)))
    laidOut rfl (by kernel_rfl) (rt := 4) rfl Tryd.underlying4 ?_ gw ?_
  · intro ds h
    rw [Tryd.params3] at h
    obtain ⟨d, rfl⟩ := lens_one h
    exact ⟨rfl, rfl, rfl⟩
  · intro xs h
    rw [Tryd.params3] at h
    exact s_FnMatches h
theorem over_FnMatches : Rows.fnMatchesRow.holds Tryd.pinned (OpenSpec.ofChange Rows.fnMatchesSpec) :=
  OpenClaim.holds_of_wide 3 Tryd.f3 rfl rfl rfl rfl rfl rfl rfl ⟨rfl, rfl, rfl, rfl, rfl⟩ rfl rfl rfl rfl rfl (by kernel_rfl) Tryd.func3 (by kernel_rfl)
    (of_decide_eq_true (by kernel_rfl)) (by unfold Func.isWrapper; first | (rw [if_pos (by decide +kernel)]; kernel_rfl) | (rw [if_neg (by decide +kernel)]; exact ⟨rfl, rfl⟩))
    (fun os started H enc _ => lifted_FnMatches os started H enc)
/-- The tied card, for the claim. -/
theorem fnMatchesCard_holds : Rows.FnMatchesCardSaid :=
  Claim7.holds_tied_plain_at .later [] [.data, .pinned] true Rows.fnMatchesCard.stood.harness false over_FnMatches (fun _ h => by cases h) (by kernel_rfl) (fun _ h => by cases h) fnMatches_row_tie rfl ⟨rfl, rfl⟩ (by kernel_rfl) rfl
    (fun f fn hf hfn => by
      obtain rfl : f = 3 := Option.some.inj ((show Tryd.prog.funcNamed "loop.example/g00098/laws.FnMatches" = some 3 by kernel_rfl).symm.trans hf) |>.symm
      obtain rfl : fn = Tryd.f3 := (Option.some.inj (Tryd.func3.symm.trans hfn)).symm
      exact ⟨by kernel_rfl, fun j t ht => by
        rw [Tryd.params3] at ht
        have hm : t ∈ [22] := by simpa using Array.mem_of_getElem? ht
        have hall : ([22].all fun u => !Tryd.prog.wantsStandIn u) = true := by kernel_rfl
        exact (show Tryd.prog.wantsStandIn t = false by simpa using List.all_eq_true.1 hall t hm)⟩)
    (by kernel_rfl)
#print axioms fnMatchesCard_holds
end Go.Proofs.YtffpfjnakhpheaaDoor
