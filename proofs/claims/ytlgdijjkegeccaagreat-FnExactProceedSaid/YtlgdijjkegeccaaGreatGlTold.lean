/- Contracts of the law's helpers: Told. -/
import Derived.Test.YtlgdijjkegeccaaGreatKA
import Derived.Test.YtlgdijjkegeccaaGreatKG
import Derived.Test.YtlgdijjkegeccaaGreatKM
namespace Go.Proofs.YtlgdijjkegeccaaGreat
open Go Go.RowKit Go.Bv
set_option linter.unusedSimpArgs false
set_option linter.unusedVariables false
set_option maxRecDepth 4000
set_option maxHeartbeats 1000000
structure ToldV where
  kind : Int
  msg : MsgV
  index : Int
  n : Int
def encTold (o : Bool) (x : ToldV) : AV := .agg [.int .i64 x.kind, (encMsg o) x.msg, .int .i64 x.index, .int .i64 x.n]
theorem ash_Told (o : Bool) (x : ToldV) : ash (encTold o x) = encTold false x := by simp only [encTold, ash, ashs, ash_Msg]
theorem plA_Told (o : Bool) (x : ToldV) : plA (encTold o x) = true := by simp only [encTold, plA, plAs, Bool.and_self, plA_Msg]
theorem noSh_Told (x : ToldV) : noSh (encTold true x) = true := by simp only [encTold, noSh, noShs, Bool.and_self, noSh_Msg]
attribute [go_sem] ash_Told plA_Told noSh_Told
def wTold (x : ToldV) : Nat := wMsg x.msg
def okTold (x : ToldV) : Prop := okMsg x.msg
def meTold (x : ToldV) (k : Int) : ToldV := { kind := k, msg := { kind := k + 1, num := k + 1 + 1, text := mText (k + 1 + 1 + 1) }, index := k + 1 + 1 + 1 + 1, n := k + 1 + 1 + 1 + 1 + 1 }
def mwTold (x : ToldV) : Nat := 6
theorem mw10Told (x : ToldV) : mwTold x ≤ 10 * (1 + wTold x) := by
  skip
  simp only [mwTold, wTold, wMsg]; omega
def wToldS (f : List ToldV) : Nat := f.length + sumL wTold f
def okToldS (f : List ToldV) : Prop := f.length < 4611686018427387904 ∧ ∀ x ∈ f, okTold x
def mkToldS (f : List ToldV) (k : Int) : List ToldV := mkL meTold mwTold f k
def mwToldS (f : List ToldV) : Nat := sumL mwTold f
theorem mw10ToldS (f : List ToldV) : mwToldS f ≤ 10 * wToldS f := sum10 mw10Told f
theorem ashs_Told (o : Bool) (f : List ToldV) : ashs (f.map (encTold o)) = f.map (encTold false) := ashs_map (g := (encTold o)) (h := (encTold false)) (fun x => ash_Told o x) f
theorem plAs_Told (o : Bool) (f : List ToldV) : plAs (f.map (encTold o)) = true := plAs_map (g := (encTold o)) (fun x => plA_Told o x) f
theorem alen_Told (o : Bool) (f : List ToldV) : ((f.map (encTold o)).all fun u => alen u == 6) = true := alen_map (g := (encTold o)) (fun x => rfl) f
theorem noShs_Told (f : List ToldV) : noShs (f.map (encTold true)) = true := noShs_map (g := (encTold true)) (fun x => noSh_Told x) f
theorem leafAs_Told (o : Bool) (f : List ToldV) : leafAs (f.map (encTold o)) = true := leafAs_map (g := (encTold o)) (fun x => rfl) f
attribute [go_sem] ashs_Told plAs_Told alen_Told noShs_Told leafAs_Told
def zeroTold : AV := .agg [.int .i64 0, .agg [.int .i64 0, .int .i64 0, .str { data := #[] }], .int .i64 0, .int .i64 0]
theorem c_laws_eqTold (x : ToldV) {u v : AV} (hu : u = encTold false x) (hv : v = encTold false x) (hw : wTold x ≤ 4194304) : Sound P 9 [u, v] (.bool true) := by
  subst hu hv
  have hw1 : wMsg x.msg ≤ 4194304 := by simp only [wTold] at hw; omega
  clear hw
  refine snd_b hT Tryz.func9 Tryz.results9 Tryz.ntmps9 ?_
  (all_goals (have E0 := @encTold.eq_1))
  (all_goals (have E1 := @encMsg.eq_1))
  repeat' (first | refine one ?_ | (refine two ?_ ?_; all_goals (intro h; try simp only [Bool.not_eq_true', Bool.not_eq_false', reduceCtorEq] at h)) | fail)
  all_goals (try clear E0 E1)
  all_goals (simp only [go_sem, *])
noncomputable abbrev ic_laws_eqTold := Con.mk (P := P) (f := 9) Tryz.call9 @c_laws_eqTold
attribute [instance] ic_laws_eqTold
end Go.Proofs.YtlgdijjkegeccaaGreat
