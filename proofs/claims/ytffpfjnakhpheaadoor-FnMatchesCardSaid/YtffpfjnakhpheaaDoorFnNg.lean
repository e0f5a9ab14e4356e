/- The law FnExactMatches returns true of every two texts. -/
import Derived.Test.YtffpfjnakhpheaaDoorFnNe
import Derived.Test.YtffpfjnakhpheaaDoorBvM5
namespace Go.Proofs.YtffpfjnakhpheaaDoor
open Go Go.RowKit Go.Bv
set_option linter.unusedSimpArgs false
set_option linter.unusedVariables false
set_option maxRecDepth 4000
set_option maxHeartbeats 8000000
/-! The walks that end. -/
theorem wFnNg7_0 {p : Prop} (h : p := by
  refine snd_b hT Tryd.func7 Tryd.results7 Tryd.ntmps7 ?_
  exact wk) : p := h
theorem wFnNg7_1 {p : Prop} (h : p := by
  repeat' (first | refine oneF ?_ | (refine two ?_ ?_; all_goals (intro h; try simp only [Bool.not_eq_true', Bool.not_eq_false', reduceCtorEq] at h)) | fail)
  all_goals (simp only [go_sem, *]; first | done | rfl)) : p := h
theorem wFnNg7_2 {p : Prop} (h : p := by
  have E0 := @encString.eq_1
  repeat' (first | refine oneF ?_ | (refine two ?_ ?_; all_goals (intro h; try simp only [Bool.not_eq_true', Bool.not_eq_false', reduceCtorEq] at h)) | fail)
  all_goals (simp only [go_sem, *]; first | done | rfl)) : p := h
theorem sFnNg8 {p q : Prop} (k : q) (h : q → p := by
  first
  | exact shAR 11 (by exact i_W hT [[], [], [0, 1], [0, 1, 2], [0, 1, 2, 3], [0, 1, 2, 3, 4], [0, 1, 2, 3, 4, 5], [0, 1, 2, 3, 4, 5], [0, 1, 2, 3, 4, 5, 6, 7], [0, 1, 2, 3, 4, 5, 6, 7, 8], [0, 1, 2, 3, 4, 5], [0, 1, 2, 3, 4, 5], [0, 1, 2, 3, 4, 5, 10, 11], [0, 1, 2, 3, 4, 5, 10, 11, 12], [0, 1, 2, 3, 4, 5, 6, 7, 8, 9, 10, 11, 12, 13], [0, 1, 2, 3, 4, 5, 6, 7, 8, 9, 10, 11, 12, 13, 14]] [[(35, _)], [(36, _)], [(37, _)], [(38, _)], [(39, _)], [(40, _)], [(41, _)], [(42, _)], [(43, _)], [(44, _)], [(45, _)], [(46, _)], [(47, _)], [(48, _)], [(49, _)], [(50, _)]] (by decide +kernel) (by refine st_o [2, 3, 4, 5, 6, 7, 8, 9, 10, 11, 12, 13, 14, 15] ?_; refine st_o [2, 3, 4, 5, 6, 7, 8, 9, 10, 11, 12, 13, 14, 15] ?_; refine st_o [3, 4, 5, 6, 7, 8, 9, 10, 11, 12, 13, 14, 15] ?_; refine st_o [4, 5, 6, 7, 8, 9, 10, 11, 12, 13, 14, 15] ?_; refine st_o [5, 6, 7, 8, 9, 10, 11, 12, 13, 14, 15] ?_; refine st_o [6, 7, 8, 9, 10, 11, 12, 13, 14, 15] ?_; refine st_o [8, 9, 14, 15] ?_; refine st_o [8, 9, 14, 15] ?_; refine st_o [9, 14, 15] ?_; refine st_o [14, 15] ?_; refine st_o [12, 13, 14, 15] ?_; refine st_o [12, 13, 14, 15] ?_; refine st_o [13, 14, 15] ?_; refine st_o [14, 15] ?_; refine st_o [15] ?_; refine st_o [] ?_; exact steps_nil))
  | exact i1
  | fail) : p := h k
theorem wFnNg8_0 {p : Prop} (h : p := by
  refine snd_b hT Tryd.func8 Tryd.results8 Tryd.ntmps8 ?_
  repeat' (first | refine sFnNg8 ?_ | (refine two ?_ ?_; all_goals (intro h; try simp only [Bool.not_eq_true', Bool.not_eq_false', reduceCtorEq] at h)) | fail)
  all_goals (simp only [go_sem, *]; first | done | rfl)) : p := h
theorem sFnNg8F {p q : Prop} (k : q) (h : q → p := by
  first
  | exact shAR 11 (by exact i_W hT [[], [], [0, 1], [0, 1, 2], [0, 1, 2, 3], [0, 1, 2, 3, 4], [0, 1, 2, 3, 4, 5], [0, 1, 2, 3, 4, 5], [0, 1, 2, 3, 4, 5, 6, 7], [0, 1, 2, 3, 4, 5, 6, 7, 8], [0, 1, 2, 3, 4, 5], [0, 1, 2, 3, 4, 5], [0, 1, 2, 3, 4, 5, 10, 11], [0, 1, 2, 3, 4, 5, 10, 11, 12], [0, 1, 2, 3, 4, 5, 6, 7, 8, 9, 10, 11, 12, 13], [0, 1, 2, 3, 4, 5, 6, 7, 8, 9, 10, 11, 12, 13, 14]] [[(35, _)], [(36, _)], [(37, _)], [(38, _)], [(39, _)], [(40, _)], [(41, _)], [(42, _)], [(43, _)], [(44, _)], [(45, _)], [(46, _)], [(47, _)], [(48, _)], [(49, _)], [(50, _)]] (by decide +kernel) (by refine st_oF [2, 3, 4, 5, 6, 7, 8, 9, 10, 11, 12, 13, 14, 15] ?_; refine st_oF [2, 3, 4, 5, 6, 7, 8, 9, 10, 11, 12, 13, 14, 15] ?_; refine st_oF [3, 4, 5, 6, 7, 8, 9, 10, 11, 12, 13, 14, 15] ?_; refine st_oF [4, 5, 6, 7, 8, 9, 10, 11, 12, 13, 14, 15] ?_; refine st_oF [5, 6, 7, 8, 9, 10, 11, 12, 13, 14, 15] ?_; refine st_oF [6, 7, 8, 9, 10, 11, 12, 13, 14, 15] ?_; refine st_oF [8, 9, 14, 15] ?_; refine st_oF [8, 9, 14, 15] ?_; refine st_oF [9, 14, 15] ?_; refine st_oF [14, 15] ?_; refine st_oF [12, 13, 14, 15] ?_; refine st_oF [12, 13, 14, 15] ?_; refine st_oF [13, 14, 15] ?_; refine st_oF [14, 15] ?_; refine st_oF [15] ?_; refine st_oF [] ?_; exact steps_nil))
  | exact i1F
  | fail) : p := h k
theorem wFnNg8_1 {p : Prop} (h : p := by
  repeat' (first | refine sFnNg8F ?_ | (refine two ?_ ?_; all_goals (intro h; try simp only [Bool.not_eq_true', Bool.not_eq_false', reduceCtorEq] at h)) | fail)
  all_goals (simp only [go_sem, *]; first | done | rfl)) : p := h
theorem wFnNg8_2 {p : Prop} (h : p := by
  have E0 := @encString.eq_1
  repeat' (first | refine sFnNg8F ?_ | (refine two ?_ ?_; all_goals (intro h; try simp only [Bool.not_eq_true', Bool.not_eq_false', reduceCtorEq] at h)) | fail)
  all_goals (simp only [go_sem, *]; first | done | rfl)) : p := h
theorem wFnNg4_0 {p : Prop} (h : p := by
  refine snd_b hT Tryd.func4 Tryd.results4 Tryd.ntmps4 ?_
  exact wk) : p := h

def eqT (x y : ByteArray) : Bool := x.toList == y.toList
/-- A name's parts fit a pattern's. -/
def matchL : List ByteArray → List ByteArray → Bool
  | ls, [] => ls.isEmpty
  | [], _ :: _ => false
  | x :: ls, w :: bs => isT w 62 || ((isT w 42 || eqT w x) && matchL ls bs)
def matchB (s t : ByteArray) : Bool := rightB false s && (rightB true t && matchL (partsS s) (partsS t))
theorem drop_at {b : List ByteArray} {i : Nat} {w : ByteArray} (h : b[i]? = some w) : b.drop i = w :: b.drop (i + 1) := by
  obtain ⟨hl, rfl⟩ := List.getElem?_eq_some_iff.1 h
  exact List.drop_eq_getElem_cons hl
theorem match_end {a b : List ByteArray} {i : Nat} (hi : i ≤ b.length) (ha : i ≤ a.length) (h : b.length ≤ i) : matchL (a.drop i) (b.drop i) = ((a.length : Int) == (b.length : Int)) := by
  rw [List.drop_eq_nil_of_le h]
  cases hd : a.drop i with
  | nil =>
    have := List.drop_eq_nil_iff.1 hd
    rw [show a.length = b.length by omega]
    simp [matchL]
  | cons x l =>
    have : i < a.length := by
      rcases Nat.lt_or_ge i a.length with h | h
      · exact h
      · rw [List.drop_eq_nil_of_le h] at hd; cases hd
    have hne : ((a.length : Int) == (b.length : Int)) = false := by
      rw [beq_eq_false_iff_ne]; omega
    rw [hne]; rfl
theorem match_short {a b : List ByteArray} {i : Nat} {w : ByteArray} (h : b[i]? = some w) (ha : a.length ≤ i) : matchL (a.drop i) (b.drop i) = false := by
  rw [drop_at h, List.drop_eq_nil_of_le ha]; rfl
theorem match_step {a b : List ByteArray} {i : Nat} {x w : ByteArray} (hx : a[i]? = some x) (hw : b[i]? = some w) : matchL (a.drop i) (b.drop i) = (isT w 62 || ((isT w 42 || eqT w x) && matchL (a.drop (i + 1)) (b.drop (i + 1)))) := by
  rw [drop_at hx, drop_at hw]; rfl
theorem c_impl_Matches (s t : ByteArray) (hs : s.size ≤ 1048576) (ht : t.size ≤ 1048576) : Sound P 7 [.str s, .str t] (.bool (matchB s t)) := by
  have h1 := c_impl_NameOk s hs
  have h2 := c_impl_PatternOk t ht
  cases hN : rightB false s with
  | false =>
    rw [hN] at h1
    rw [matchB, hN, Bool.false_and]
    exact wFnNg7_0
  | true =>
  rw [hN] at h1
  cases hP : rightB true t with
  | false =>
    rw [hP] at h2
    rw [matchB, hN, hP, Bool.true_and, Bool.false_and]
    exact wFnNg7_0
  | true =>
  rw [hP] at h2
  rw [matchB, hN, hP, Bool.true_and, Bool.true_and]
  clear hN hP
  have ha1 := partsS_le s
  have hb1 := partsS_le t
  have hsa := c_strings_Split s (by omega)
  have hsb := c_strings_Split t (by omega)
  have hpa : ∀ p ∈ partsS s, p.size < 4611686018427387904 := fun p hp => parts_size hp (by omega)
  have hpb : ∀ p ∈ partsS t, p.size < 4611686018427387904 := fun p hp => parts_size hp (by omega)
  obtain ⟨a, ha⟩ : ∃ a, partsS s = a := ⟨_, rfl⟩
  obtain ⟨b, hb⟩ : ∃ b, partsS t = b := ⟨_, rfl⟩
  rw [ha] at ha1 hsa hpa
  rw [hb] at hb1 hsb hpb
  rw [ha, hb]
  have ha4 : a.length ≤ 4194304 := by omega
  have hb4 : b.length ≤ 4194304 := by omega
  have hpa := Kept.mk hpa
  have hpb := Kept.mk hpb
  clear ha hb
  refine snd_b hT Tryd.func7 Tryd.results7 Tryd.ntmps7 ?_
  repeat' (first | refine oneF ?_ | (refine two ?_ ?_; all_goals (intro h; try simp only [Bool.not_eq_true', Bool.not_eq_false', reduceCtorEq] at h)) | fail)
  refine aw_loop [2, 3, 7, 8, 9, 10, 11, 12, 13, 14, 15, 16, 17, 18, 19, 20, 24, 25, 26, 27, 28, 29, 30, 31, 32, 33, 34, 35, 36, 37, 38, 39, 40, 41, 42, 43, 44, 45, 46, 47, 48, 49] (fun n S => ∃ i : Nat, n = b.length - i ∧ i ≤ b.length ∧ i ≤ a.length ∧ matchL a b = matchL (a.drop i) (b.drop i) ∧ S = [.str s, .str t, .undef, .undef, .bool false, .lst true 1 (a.map encString), .lst true 1 (b.map encString), .undef, .undef, .undef, .undef, .undef, .undef, .undef, .undef, .undef, .undef, .undef, .undef, .undef, .undef, .ref 6 [] 0 b.length, .int .i64 b.length, .int .i64 i, .undef, .undef, .undef, .undef, .undef, .undef, .undef, .undef, .undef, .undef, .undef, .undef, .undef, .undef, .undef, .undef, .undef, .undef, .undef, .undef, .undef, .undef, .undef, .undef, .undef, .undef]) b.length ?_ ?_
  · refine ⟨0, by simp, by omega, by omega, rfl, ?_⟩
    clear hpa hpb
    first
    | ((rw [clr_eq]; rotate_left; rfl; simp only [keepB, go_sem, Nat.reduceBEq, Nat.reduceAdd, cond_true, cond_false, *]; simp only [clrG, Nat.reduceBEq, Nat.reduceAdd, cond_true, cond_false]); first | done | rfl)
    | (simp only [clr, go_sem]; first | done | rfl)
  rintro n S ⟨i, hn, hi, hia, hm, rfl⟩
  have hw : IntKind.i64.wrap ((i : Int) + 1) = ((i + 1 : Nat) : Int) := by rw [wrap_small] <;> omega
  by_cases hlt : i < b.length
  rotate_left
  · have hd : decide ((i : Int) < (b.length : Int)) = false := decide_eq_false (by omega)
    have he : matchL (a.drop i) (b.drop i) = ((a.length : Int) == (b.length : Int)) := match_end hi hia (by omega)
    rw [hm, he]
    clear hm he hpa hpb hn
    exact wFnNg7_1
  have hd : decide ((i : Int) < (b.length : Int)) = true := decide_eq_true (by omega)
  obtain ⟨w, hwi⟩ : ∃ w, b[i]? = some w := ⟨b[i], List.getElem?_eq_getElem hlt⟩
  have hwz : w.size < 4611686018427387904 := hpb.out w (List.mem_of_getElem? hwi)
  have hi0 : (0 : Int) ≤ (i : Int) := by omega
  have hi1 : (i : Int) < (b.length : Int) := by omega
  by_cases hla : i < a.length
  rotate_left
  · have hd2 : decide ((i : Int) ≥ (a.length : Int)) = true := decide_eq_true (by omega)
    have hv := match_short (a := a) (b := b) hwi (by omega)
    clear hpa hpb
    rw [hm, hv]
    clear hm hn hv
    exact wFnNg7_2
  have hd2 : decide ((i : Int) ≥ (a.length : Int)) = false := decide_eq_false (by omega)
  obtain ⟨x, hxi⟩ : ∃ x, a[i]? = some x := ⟨a[i], List.getElem?_eq_getElem hla⟩
  have hxz : x.size < 4611686018427387904 := hpa.out x (List.mem_of_getElem? hxi)
  have hi2 : (i : Int) < (a.length : Int) := by omega
  have hok := match_step hxi hwi
  have e42 : (w.toList == ByteArray.toList { data := #[42] }) = isT w 42 := rfl
  have e62 : (w.toList == ByteArray.toList { data := #[62] }) = isT w 62 := rfl
  have eq : (w.toList == x.toList) = eqT w x := rfl
  clear hpa hpb
  cases hq : isT w 62
  rotate_left
  · rw [hq] at e62 hok
    simp only [Bool.true_or] at hok
    clear hq e42 eq
    rw [hm, hok]
    clear hm hn hok
    exact wFnNg7_2
  rw [hq] at e62 hok
  clear hq
  simp only [Bool.false_or] at hok
  cases hq : isT w 42
  rotate_left
  · rw [hq] at e42 hok
    simp only [Bool.true_or, Bool.true_and] at hok
    clear hq eq
    have hm' := Kept.mk (hm.trans hok)
    clear hm hok 
    (all_goals (have E0 := @encString.eq_1))
    repeat' (first | refine oneF ?_ | (refine two ?_ ?_; all_goals (intro h; try simp only [Bool.not_eq_true', Bool.not_eq_false', reduceCtorEq] at h)) | fail)
    all_goals (try clear E0)
    all_goals (
      refine ⟨b.length - (i + 1), by omega, i + 1, rfl, by omega, by omega, hm'.out, ?_⟩
      clear hm'
      (rw [clr_eq]; rotate_left; rfl; simp only [keepB, go_sem, Nat.reduceBEq, Nat.reduceAdd, cond_true, cond_false, *]; simp only [clrG, Nat.reduceBEq, Nat.reduceAdd, cond_true, cond_false])
      first | done | rfl)
  rw [hq] at e42 hok
  clear hq
  simp only [Bool.false_or] at hok
  cases hq : eqT w x
  · rw [hq] at eq hok
    simp only [Bool.false_and] at hok
    clear hq
    rw [hm, hok]
    clear hm hn hok
    exact wFnNg7_2
  rw [hq] at eq hok
  clear hq
  simp only [Bool.true_and] at hok
  have hm' := Kept.mk (hm.trans hok)
  clear hm hok 
  (all_goals (have E0 := @encString.eq_1))
  repeat' (first | refine oneF ?_ | (refine two ?_ ?_; all_goals (intro h; try simp only [Bool.not_eq_true', Bool.not_eq_false', reduceCtorEq] at h)) | fail)
  all_goals (try clear E0)
  all_goals (
    refine ⟨b.length - (i + 1), by omega, i + 1, rfl, by omega, by omega, hm'.out, ?_⟩
    clear hm'
    (rw [clr_eq]; rotate_left; rfl; simp only [keepB, go_sem, Nat.reduceBEq, Nat.reduceAdd, cond_true, cond_false, *]; simp only [clrG, Nat.reduceBEq, Nat.reduceAdd, cond_true, cond_false])
    first | done | rfl)
noncomputable abbrev ic_impl_Matches := Con.mk (P := P) (f := 7) Tryd.call7 @c_impl_Matches
attribute [instance] ic_impl_Matches
theorem c_spec_Matches (s t : ByteArray) (hs : s.size ≤ 1048576) (ht : t.size ≤ 1048576) : Sound P 8 [.str s, .str t] (.bool (matchB s t)) := by
  have h1 := c_spec_NameOk s hs
  have h2 := c_spec_PatternOk t ht
  cases hN : rightB false s with
  | false =>
    rw [hN] at h1
    rw [matchB, hN, Bool.false_and]
    exact wFnNg8_0
  | true =>
  rw [hN] at h1
  cases hP : rightB true t with
  | false =>
    rw [hP] at h2
    rw [matchB, hN, hP, Bool.true_and, Bool.false_and]
    exact wFnNg8_0
  | true =>
  rw [hP] at h2
  rw [matchB, hN, hP, Bool.true_and, Bool.true_and]
  clear hN hP
  have ha1 := partsS_le s
  have hb1 := partsS_le t
  have hsa := c_spec_l11Parts s (by omega)
  have hsb := c_spec_l11Parts t (by omega)
  have hpa : ∀ p ∈ partsS s, p.size < 4611686018427387904 := fun p hp => parts_size hp (by omega)
  have hpb : ∀ p ∈ partsS t, p.size < 4611686018427387904 := fun p hp => parts_size hp (by omega)
  obtain ⟨a, ha⟩ : ∃ a, partsS s = a := ⟨_, rfl⟩
  obtain ⟨b, hb⟩ : ∃ b, partsS t = b := ⟨_, rfl⟩
  rw [ha] at ha1 hsa hpa
  rw [hb] at hb1 hsb hpb
  rw [ha, hb]
  have ha4 : a.length ≤ 4194304 := by omega
  have hb4 : b.length ≤ 4194304 := by omega
  have hpa := Kept.mk hpa
  have hpb := Kept.mk hpb
  clear ha hb
  refine snd_b hT Tryd.func8 Tryd.results8 Tryd.ntmps8 ?_
  repeat' (first | refine sFnNg8F ?_ | (refine two ?_ ?_; all_goals (intro h; try simp only [Bool.not_eq_true', Bool.not_eq_false', reduceCtorEq] at h)) | fail)
  refine aw_loop [2, 3, 8, 9, 10, 11, 12, 13, 14, 15, 16, 17, 18, 19, 20, 21, 22, 23, 24, 25, 26, 27, 28, 29, 30, 31, 32, 33, 34, 35, 36, 37, 38, 39, 40, 41, 42, 43, 44, 45, 46, 47, 48, 49, 50, 51, 52, 53, 54, 55] (fun n S => ∃ i : Nat, n = b.length - i ∧ i ≤ b.length ∧ i ≤ a.length ∧ matchL a b = matchL (a.drop i) (b.drop i) ∧ S = [.str s, .str t, .undef, .undef, .bool false, .lst true 1 (a.map encString), .lst true 1 (b.map encString), .int .i64 i, .undef, .undef, .undef, .undef, .undef, .undef, .undef, .undef, .undef, .undef, .undef, .undef, .undef, .undef, .undef, .undef, .undef, .undef, .undef, .undef, .undef, .undef, .undef, .undef, .undef, .undef, .undef, .undef, .undef, .undef, .undef, .undef, .undef, .undef, .undef, .undef, .undef, .undef, .undef, .undef, .undef, .undef, .undef, .undef, .undef, .undef, .undef, .undef]) b.length ?_ ?_
  · refine ⟨0, by simp, by omega, by omega, rfl, ?_⟩
    clear hpa hpb
    first
    | ((rw [clr_eq]; rotate_left; rfl; simp only [keepB, go_sem, Nat.reduceBEq, Nat.reduceAdd, cond_true, cond_false, *]; simp only [clrG, Nat.reduceBEq, Nat.reduceAdd, cond_true, cond_false]); first | done | rfl)
    | (simp only [clr, go_sem]; first | done | rfl)
  rintro n S ⟨i, hn, hi, hia, hm, rfl⟩
  have hw : IntKind.i64.wrap ((i : Int) + 1) = ((i + 1 : Nat) : Int) := by rw [wrap_small] <;> omega
  by_cases hlt : i < b.length
  rotate_left
  · have hd : decide ((i : Int) < (b.length : Int)) = false := decide_eq_false (by omega)
    have he : matchL (a.drop i) (b.drop i) = ((a.length : Int) == (b.length : Int)) := match_end hi hia (by omega)
    rw [hm, he]
    clear hm he hpa hpb hn
    exact wFnNg8_1
  have hd : decide ((i : Int) < (b.length : Int)) = true := decide_eq_true (by omega)
  obtain ⟨w, hwi⟩ : ∃ w, b[i]? = some w := ⟨b[i], List.getElem?_eq_getElem hlt⟩
  have hwz : w.size < 4611686018427387904 := hpb.out w (List.mem_of_getElem? hwi)
  have hi0 : (0 : Int) ≤ (i : Int) := by omega
  have hi1 : (i : Int) < (b.length : Int) := by omega
  by_cases hla : i < a.length
  rotate_left
  · have hd2 : decide ((i : Int) ≥ (a.length : Int)) = true := decide_eq_true (by omega)
    have hv := match_short (a := a) (b := b) hwi (by omega)
    clear hpa hpb
    rw [hm, hv]
    clear hm hn hv
    exact wFnNg8_2
  have hd2 : decide ((i : Int) ≥ (a.length : Int)) = false := decide_eq_false (by omega)
  obtain ⟨x, hxi⟩ : ∃ x, a[i]? = some x := ⟨a[i], List.getElem?_eq_getElem hla⟩
  have hxz : x.size < 4611686018427387904 := hpa.out x (List.mem_of_getElem? hxi)
  have hi2 : (i : Int) < (a.length : Int) := by omega
  have hok := match_step hxi hwi
  have e42 : (w.toList == ByteArray.toList { data := #[42] }) = isT w 42 := rfl
  have e62 : (w.toList == ByteArray.toList { data := #[62] }) = isT w 62 := rfl
  have eq : (w.toList == x.toList) = eqT w x := rfl
  clear hpa hpb
  cases hq : isT w 62
  rotate_left
  · rw [hq] at e62 hok
    simp only [Bool.true_or] at hok
    clear hq e42 eq
    rw [hm, hok]
    clear hm hn hok
    exact wFnNg8_2
  rw [hq] at e62 hok
  clear hq
  simp only [Bool.false_or] at hok
  cases hq : isT w 42
  rotate_left
  · rw [hq] at e42 hok
    simp only [Bool.true_or, Bool.true_and] at hok
    clear hq eq
    have hm' := Kept.mk (hm.trans hok)
    clear hm hok 
    (all_goals (have E0 := @encString.eq_1))
    repeat' (first | refine sFnNg8F ?_ | (refine two ?_ ?_; all_goals (intro h; try simp only [Bool.not_eq_true', Bool.not_eq_false', reduceCtorEq] at h)) | fail)
    all_goals (try clear E0)
    all_goals (
      refine ⟨b.length - (i + 1), by omega, i + 1, rfl, by omega, by omega, hm'.out, ?_⟩
      clear hm'
      (rw [clr_eq]; rotate_left; rfl; simp only [keepB, go_sem, Nat.reduceBEq, Nat.reduceAdd, cond_true, cond_false, *]; simp only [clrG, Nat.reduceBEq, Nat.reduceAdd, cond_true, cond_false])
      first | done | rfl)
  rw [hq] at e42 hok
  clear hq
  simp only [Bool.false_or] at hok
  cases hq : eqT w x
  · rw [hq] at eq hok
    simp only [Bool.false_and] at hok
    clear hq
    rw [hm, hok]
    clear hm hn hok
    exact wFnNg8_2
  rw [hq] at eq hok
  clear hq
  simp only [Bool.true_and] at hok
  have hm' := Kept.mk (hm.trans hok)
  clear hm hok 
  (all_goals (have E0 := @encString.eq_1))
  repeat' (first | refine sFnNg8F ?_ | (refine two ?_ ?_; all_goals (intro h; try simp only [Bool.not_eq_true', Bool.not_eq_false', reduceCtorEq] at h)) | fail)
  all_goals (try clear E0)
  all_goals (
    refine ⟨b.length - (i + 1), by omega, i + 1, rfl, by omega, by omega, hm'.out, ?_⟩
    clear hm'
    (rw [clr_eq]; rotate_left; rfl; simp only [keepB, go_sem, Nat.reduceBEq, Nat.reduceAdd, cond_true, cond_false, *]; simp only [clrG, Nat.reduceBEq, Nat.reduceAdd, cond_true, cond_false])
    first | done | rfl)
noncomputable abbrev ic_spec_Matches := Con.mk (P := P) (f := 8) Tryd.call8 @c_spec_Matches
attribute [instance] ic_spec_Matches
theorem c_laws_FnExactMatches (s t : ByteArray) {u v : AV} (hu : u = .str s) (hv : v = .str t) (hs : s.size < 4611686018427387904) (ht : t.size < 4611686018427387904) : Sound P 4 [u, v] (.bool true) := by
  subst hu hv
  by_cases h : (s.size : Int) > 1048576
  · have hd : decide ((s.size : Int) > 1048576) = true := decide_eq_true h
    clear h
    exact wFnNg4_0
  have hd : decide ((s.size : Int) > 1048576) = false := decide_eq_false h
  have hs1 : s.size ≤ 1048576 := by omega
  clear h
  by_cases h : (t.size : Int) > 1048576
  · have hd2 : decide ((t.size : Int) > 1048576) = true := decide_eq_true h
    clear h
    exact wFnNg4_0
  have hd2 : decide ((t.size : Int) > 1048576) = false := decide_eq_false h
  have ht1 : t.size ≤ 1048576 := by omega
  clear h
  have h1 := c_spec_Matches s t hs1 ht1
  have h2 := c_impl_Matches s t hs1 ht1
  obtain ⟨m, hm⟩ : ∃ m, matchB s t = m := ⟨_, rfl⟩
  rw [hm] at h1 h2
  clear hm
  cases m <;> (
    exact wFnNg4_0)
noncomputable abbrev ic_laws_FnExactMatches := Con.mk (P := P) (f := 4) Tryd.call4 @c_laws_FnExactMatches
attribute [instance] ic_laws_FnExactMatches
end Go.Proofs.YtffpfjnakhpheaaDoor
