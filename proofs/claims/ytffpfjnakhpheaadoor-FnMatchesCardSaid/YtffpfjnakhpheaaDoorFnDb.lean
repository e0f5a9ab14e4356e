/- Draws: a new cursor; a term, a filter, a message. -/
import Derived.Test.YtffpfjnakhpheaaDoorFnDa
import Derived.Test.YtffpfjnakhpheaaDoorGlTerm
import Derived.Test.YtffpfjnakhpheaaDoorGlMsg
import Derived.Test.YtffpfjnakhpheaaDoorBvM5
import Derived.Test.YtffpfjnakhpheaaDoorBvFz
import Derived.Test.YtffpfjnakhpheaaDoorBvBo
namespace Go.Proofs.YtffpfjnakhpheaaDoor
open Go Go.RowKit Go.Bv
set_option linter.unusedSimpArgs false
set_option linter.unusedVariables false
set_option maxRecDepth 4000
set_option maxHeartbeats 4000000
/-! The walks that end. -/
theorem sFnDb11 {p q : Prop} (k : q) (h : q → p := by
  first
  | exact shAL (by exact i_aptr)
  | exact i1
  | fail) : p := h k
-- FROZEN spec.l8Leaf
-- FROZEN spec.l1Msg
-- ALT spec.l1New exact shAL (by exact i_aptr)

theorem plA_cur (y : CurV) : plA (encCur y) = true := by simp only [encCur, go_sem]
attribute [go_sem] plA_cur
def hshX (h x : Int) : Int := IntKind.i64.wrap ((BitVec.ofInt 64 (IntKind.i64.wrap (IntKind.i64.wrap (IntKind.i64.wrap (h * 131) + x) + 7)) &&& BitVec.ofInt 64 1073741823).toNat : Int)
def hsh (code : List Int) : Nat → Int
  | 0 => IntKind.i64.wrap (98098 + (code.length : Int))
  | i + 1 => hshX (hsh code i) (code.getD i 0)
theorem ex_l1New (code : List Int) (hl : code.length ≤ 1048576) (hb : ∀ x ∈ code, 0 ≤ x ∧ x ≤ 255) : ∃ y : CurV, Sound P 11 [.lst false 1 (code.map encU8)] (.box (encCur y)) := by
  obtain ⟨M, hM⟩ : ∃ M, min code.length 4000 = M := ⟨_, rfl⟩
  refine ⟨⟨code, 0, hsh code M, hl, Int.le_refl _, by omega, hb⟩, ?_⟩
  have hl2 : code.length < 4611686018427387904 := by omega
  refine snd_X (q := 31) Tryd.func11 Tryd.results11 Tryd.ntmps11 rfl ?_
  (all_goals (have E0 := @encCur.eq_1))
  repeat' (first | refine sFnDb11 ?_ | (refine two ?_ ?_; all_goals (intro h; try simp only [Bool.not_eq_true', Bool.not_eq_false', reduceCtorEq] at h)) | fail)
  all_goals (try clear E0)
  refine aw_loop [1, 5, 6, 7, 8, 9, 10, 11, 12, 13, 14, 15, 16, 17, 18, 19, 20, 21, 22, 23, 24, 25, 26, 27, 28, 29, 30, 31] (fun n S => ∃ i : Nat, n = M - i ∧ i ≤ M ∧ S = [.lst false 1 (code.map encU8), .undef, .undef, .int .i64 (hsh code i), .int .i64 i, .undef, .undef, .undef, .undef, .undef, .undef, .undef, .undef, .undef, .undef, .undef, .undef, .undef, .undef, .undef, .undef, .undef, .undef, .undef, .undef, .undef, .undef, .undef, .undef, .undef, .undef, .undef]) M ?_ ?_
  · refine ⟨0, by simp, by omega, ?_⟩
    (rw [clr_eq]; rotate_left; rfl; simp only [keepB, go_sem, Nat.reduceBEq, Nat.reduceAdd, cond_true, cond_false, *]; simp only [clrG, Nat.reduceBEq, Nat.reduceAdd, cond_true, cond_false])
    first | done | rfl
  rintro n S ⟨i, hn, hi, rfl⟩
  have hwi : IntKind.i64.wrap ((i : Int) + 1) = ((i + 1 : Nat) : Int) := by rw [wrap_small] <;> omega
  by_cases hlt : i < M
  · have hd : decide ((i : Int) < (code.length : Int)) = true := decide_eq_true (by omega)
    have hd2 : decide ((i : Int) < 4000) = true := decide_eq_true (by omega)
    have hil : i < code.length := by omega
    obtain ⟨x, hx⟩ : ∃ x, code[i]? = some x := ⟨code[i], List.getElem?_eq_getElem hil⟩
    have hxb := hb x (List.mem_of_getElem? hx)
    have hwx : IntKind.i64.wrap x = x := by rw [wrap_small] <;> omega
    have hh : hshX (hsh code i) x = hsh code (i + 1) := by rw [hsh, List.getD_eq_getElem?_getD, hx]; rfl
    unfold hshX at hh
    clear hxb
    (all_goals (have E0 := @encU8.eq_1))
    repeat' (first | refine sFnDb11 ?_ | (refine two ?_ ?_; all_goals (intro h; try simp only [Bool.not_eq_true', Bool.not_eq_false', reduceCtorEq] at h)) | fail)
    all_goals (try clear E0)
    all_goals (
      refine ⟨M - (i + 1), by omega, i + 1, rfl, by omega, ?_⟩
      (rw [clr_eq]; rotate_left; rfl; simp only [keepB, go_sem, Nat.reduceBEq, Nat.reduceAdd, cond_true, cond_false, *]; simp only [clrG, Nat.reduceBEq, Nat.reduceAdd, cond_true, cond_false])
      rw [← hh]; rfl)
  · have hie : i = M := by omega
    subst hie
    by_cases h4 : i < code.length
    · have hd : decide ((i : Int) < (code.length : Int)) = true := decide_eq_true (by omega)
      have hd2 : decide ((i : Int) < 4000) = false := decide_eq_false (by omega)
      clear hlt hM hn hi
      (all_goals (have E0 := @encCur.eq_1))
      repeat' (first | refine sFnDb11 ?_ | (refine two ?_ ?_; all_goals (intro h; try simp only [Bool.not_eq_true', Bool.not_eq_false', reduceCtorEq] at h)) | fail)
      all_goals (try clear E0)
      all_goals exact ⟨rfl, rfl⟩
    · have hd : decide ((i : Int) < (code.length : Int)) = false := decide_eq_false (by omega)
      clear hlt hM hn hi h4
      (all_goals (have E0 := @encCur.eq_1))
      repeat' (first | refine sFnDb11 ?_ | (refine two ?_ ?_; all_goals (intro h; try simp only [Bool.not_eq_true', Bool.not_eq_false', reduceCtorEq] at h)) | fail)
      all_goals (try clear E0)
      all_goals exact ⟨rfl, rfl⟩
noncomputable def newC (code : List Int) : CurV := open Classical in if h : code.length ≤ 1048576 ∧ ∀ x ∈ code, 0 ≤ x ∧ x ≤ 255 then (ex_l1New code h.1 h.2).choose else ⟨[], 0, 0, by simp, by simp, by simp, by simp⟩
theorem c_spec_l1New (code : List Int) {u : AV} (hu : u = .lst false 1 (code.map encU8)) (hl : code.length ≤ 1048576) (hb : ∀ x ∈ code, 0 ≤ x ∧ x ≤ 255) : Sound P 11 [u] (.box (encCur (newC code))) := by
  subst hu
  rw [newC, dif_pos ⟨hl, hb⟩]
  exact (ex_l1New code hl hb).choose_spec
noncomputable abbrev ic_spec_l1New := Con.mk (P := P) (f := 11) Tryd.call11 @c_spec_l1New
attribute [instance] ic_spec_l1New
noncomputable def leafV (y : CurV) : TermV :=
  if belV y 7 = 0 then ⟨1, 0, { data := #[] }⟩ else if belV y 7 = 1 then ⟨2, 0, { data := #[] }⟩ else if belV y 7 = 2 then ⟨3, 0, { data := #[] }⟩
  else if belV y 7 = 3 then ⟨4, belV (belC y 7) 30 - 6, { data := #[] }⟩ else if belV y 7 = 4 then ⟨5, 1 + belV (belC y 7) 5, { data := #[] }⟩
  else if belV y 7 = 5 then ⟨6, 0, pickV (belC y 7) [{ data := #[97] }, { data := #[97, 98] }, { data := #[104] }]⟩ else ⟨7, 0, pickV (belC y 7) [{ data := #[98] }, { data := #[108] }, { data := #[101, 108, 108] }, { data := #[122] }]⟩
noncomputable def leafC (y : CurV) : CurV :=
  if belV y 7 = 3 then belC (belC y 7) 30 else if belV y 7 = 4 then belC (belC y 7) 5 else if belV y 7 = 5 then belC (belC y 7) 3 else if belV y 7 = 6 then belC (belC y 7) 4 else belC y 7
theorem pickV_le (y : CurV) {ws : List ByteArray} {n : Nat} (h : ws ≠ []) (hn : (ws.all fun w => decide (w.size ≤ n)) = true) : (pickV y ws).size ≤ n := by
  simpa using List.all_eq_true.1 hn _ (pickV_mem y h)
theorem leaf_size (y : CurV) : (leafV y).text.size ≤ 3 := by
  unfold leafV
  repeat' split
  all_goals first | exact pickV_le _ (by simp) (by decide) | exact Nat.zero_le _ | (simp only [ByteArray.size]; exact Nat.zero_le _)
def opT (n : Int) : TermV := ⟨n, 0, { data := #[] }⟩
noncomputable def filS (p : List TermV × CurV) (i : Nat) : List TermV × CurV := if i = 0 then (p.1 ++ [leafV p.2], leafC p.2)
  else if belV p.2 3 = 0 then (p.1 ++ [opT 8], belC p.2 3)
  else if belV p.2 3 = 1 then (p.1 ++ [leafV (belC p.2 3), opT 9], leafC (belC p.2 3)) else (p.1 ++ [leafV (belC p.2 3), opT 10], leafC (belC p.2 3))
noncomputable def filN (y : CurV) : Nat → List TermV × CurV
  | 0 => ([], y)
  | i + 1 => filS (filN y i) i
theorem filN_small (y : CurV) : ∀ i, (filN y i).1.length ≤ 2 * i ∧ ∀ t ∈ (filN y i).1, t.text.size ≤ 3
  | 0 => by simp [filN]
  | i + 1 => by
    have ih := filN_small y i
    rw [filN, filS]
    have ho : ∀ n, (opT n).text.size ≤ 3 := fun n => Nat.zero_le _
    repeat' split
    all_goals (
      refine ⟨by simp only [List.length_append, List.length_cons, List.length_nil]; omega, fun t ht => ?_⟩
      rcases List.mem_append.1 ht with ht | ht
      · exact ih.2 t ht
      · simp only [List.mem_cons, List.not_mem_nil, or_false] at ht
        first | (subst ht; first | exact leaf_size _ | exact ho _) | (rcases ht with rfl | rfl; exact leaf_size _; exact ho _))
noncomputable def filV (y : CurV) (most : Int) : List TermV := (filN (belC y (most + 1)) (belV y (most + 1)).toNat).1
noncomputable def filC (y : CurV) (most : Int) : CurV := (filN (belC y (most + 1)) (belV y (most + 1)).toNat).2
theorem sumL_leN {α : Type} (g : α → Nat) {n : Nat} : ∀ {f : List α}, (∀ x ∈ f, g x ≤ n) → sumL g f ≤ f.length * n
  | [], _ => by simp [sumL]
  | x :: f, h => by
    have h1 := h x (List.mem_cons_self ..)
    have h2 := sumL_leN g (f := f) fun z hz => h z (List.mem_cons_of_mem _ hz)
    simp only [sumL, List.map_cons, List.sum_cons, List.length_cons, Nat.add_mul] at h2 ⊢
    omega
theorem filV_small (y : CurV) {most : Int} (h0 : 0 ≤ most) (h6 : most ≤ 6) : (filV y most).length ≤ 12 ∧ okTermS (filV y most) ∧ wTermS (filV y most) ≤ 48 := by
  have hb := belV_in y (n := most + 1) (by omega)
  have h := filN_small (belC y (most + 1)) (belV y (most + 1)).toNat
  have hl : (filV y most).length ≤ 12 := by unfold filV; omega
  have hs := sumL_leN wTerm (f := filV y most) (n := 3) h.2
  refine ⟨hl, ⟨by omega, fun t ht => ?_⟩, ?_⟩
  · have := h.2 t ht
    unfold okTerm; omega
  · unfold wTermS
    have : (filV y most).length * 3 ≤ 36 := by omega
    omega
def textsM : List ByteArray := [{ data := #[] }, { data := #[97] }, { data := #[97, 98] }, { data := #[97, 98, 99] }, { data := #[98] }, { data := #[104, 101, 108, 108, 111] }, { data := #[120, 32, 121] }, { data := #[48, 49, 50, 51, 52, 53, 54, 55, 56, 57, 48, 49, 50, 51, 52, 53, 54, 55, 56, 57, 48, 49, 50, 51, 52, 53, 54, 55, 56, 57, 48, 49, 50, 51, 52, 53, 54, 55, 56, 57] }]
def numsM : List Int := [999999999, -999999999, 999999998]
noncomputable def msgD (y : CurV) : MsgV × CurV :=
  if belV y 3 = 0 then (⟨2, 0, pickV (belC y 3) textsM⟩, belC (belC y 3) 8)
  else if belV (belC (belC y 3) 40) 12 = 0 then (⟨1, pickN (belC (belC (belC y 3) 40) 12) numsM, { data := #[] }⟩, belC (belC (belC (belC y 3) 40) 12) 3)
  else (⟨1, belV (belC y 3) 40 - 10, { data := #[] }⟩, belC (belC (belC y 3) 40) 12)
theorem msgD_size (y : CurV) : wMsg (msgD y).1 ≤ 40 ∧ okMsg (msgD y).1 := by
  have : (msgD y).1.text.size ≤ 40 := by
    unfold msgD
    repeat' split
    all_goals first | exact pickV_le _ (by simp [textsM]) (by decide) | exact Nat.zero_le _
  exact ⟨this, by unfold okMsg; omega⟩
end Go.Proofs.YtffpfjnakhpheaaDoor
