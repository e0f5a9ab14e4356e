/- Contracts: Changed, of the program. -/
import Derived.Test.YtbeijohahflkeaaFnCh
import Derived.Test.YtbeijohahflkeaaBvM5
namespace Go.Proofs.Ytbeijohahflkeaa
open Go Go.RowKit Go.Bv
set_option linter.unusedSimpArgs false
set_option linter.unusedVariables false
set_option maxRecDepth 4000
set_option maxHeartbeats 8000000
/-! The walks that end. -/
theorem wFnCg26_0 {p : Prop} (h : p := by
  have E0 := @encMsg.eq_1
  have E1 := @encChange.eq_1
  refine snd_b hT Try.func26 Try.results26 Try.ntmps26 ?_
  exact wk) : p := h

theorem num_in {m : MsgV} (h : msgB m = true) : -999999999 ≤ m.num ∧ m.num ≤ 999999999 := by
  by_cases hk : m.kind = 1
  · exact (msg_one h hk).2
  · have := (msg_two h hk).2.1
    omega
theorem size_in {m : MsgV} (h : msgB m = true) : m.text.size ≤ 40 := by
  by_cases hk : m.kind = 1
  · rw [(msg_one h hk).1]; exact Nat.zero_le _
  · exact (msg_two h hk).2.2
theorem c_impl_Changed (m : MsgV) (x : ChangeV) {u v : AV} (hu : u = encMsg false m) (hv : v = encChange false x) (hm : okMsg m) (hx : okMsg x.msg) : Sound P 26 [u, v] (.tup [encMsg false (chgM m x), .bool (chgB m x)]) := by
  subst hu hv
  obtain ⟨M, hM⟩ : ∃ M, chgM m x = M := ⟨_, rfl⟩
  obtain ⟨b, hb⟩ : ∃ b, chgB m x = b := ⟨_, rfl⟩
  rw [hM, hb]
  cases hA : msgB m
  obtain ⟨q1, q2⟩ := chg_left (m := m) (x := x) (by rw [hA]; rfl)
  rw [q1] at hb
  rw [q2] at hM
  subst hb hM
  clear q1 q2
  rotate_left
  cases hB : msgB x.msg
  obtain ⟨q1, q2⟩ := chg_left (m := m) (x := x) (by rw [hA, hB]; rfl)
  rw [q1] at hb
  rw [q2] at hM
  subst hb hM
  clear q1 q2
  rotate_left
  obtain ⟨n1, n2⟩ := num_in hA
  obtain ⟨n3, n4⟩ := num_in hB
  have s1 := size_in hA
  have s2 := size_in hB
  have ws : IntKind.i64.wrap (m.num + x.msg.num) = m.num + x.msg.num := by rw [wrap_small] <;> omega
  have hsz : m.text.size + x.msg.text.size ≤ 4611686018427387904 := by omega
  rcases (by omega : x.kind = 1 ∨ x.kind = 2 ∨ x.kind = 3 ∨ x.kind = 4 ∨ (x.kind ≠ 1 ∧ x.kind ≠ 2 ∧ x.kind ≠ 3 ∧ x.kind ≠ 4)) with hk | hk | hk | hk | ⟨h1, h2, h3, h4⟩
  · have k1 : (x.kind == 1) = true := by rw [hk]; rfl
    obtain ⟨q1, q2⟩ := chg_some hA hB (show chRaw m x = some x.msg by simp only [chRaw, hk, if_true])
    rw [q1, hB] at hb
    rw [q2, hB, if_pos rfl] at hM
    subst hb hM
    clear q1 q2 hk n1 n2 n3 n4 s1 s2
    exact wFnCg26_0
  · have k1 : (x.kind == 1) = false := by rw [hk]; rfl
    have k2 : (x.kind == 2) = true := by rw [hk]; rfl
    by_cases hkk : m.kind = 1 ∧ x.msg.kind = 1
    · have e1 : (m.kind != 1) = false := by rw [hkk.1]; rfl
      have e2 : (x.msg.kind != 1) = false := by rw [hkk.2]; rfl
      have ho : (⟨1, m.num + x.msg.num, { data := #[] }⟩ : MsgV) = ⟨1, m.num + x.msg.num, { data := #[] }⟩ := rfl
      obtain ⟨q1, q2⟩ := chg_some hA hB (show chRaw m x = some ⟨1, m.num + x.msg.num, { data := #[] }⟩ by simp only [chRaw, hk, if_true, if_pos hkk]; rfl)
      rw [ho] at q1 q2
      have hs : Sound P 36 [.agg [.int .i64 1, .int .i64 (m.num + x.msg.num), .str { data := #[] }]] (.bool (msgB ⟨1, m.num + x.msg.num, { data := #[] }⟩)) := c_impl_MsgOk ⟨1, m.num + x.msg.num, { data := #[] }⟩ rfl (show ({ data := #[] } : ByteArray).size < 4611686018427387904 by decide)
      cases hO : msgB ⟨1, m.num + x.msg.num, { data := #[] }⟩
      · rw [hO] at q1 q2 hs
        rw [q1] at hb
        rw [q2, if_neg (by decide)] at hM
        subst hb hM
        clear q1 q2 hk n1 n2 n3 n4 s1 s2 hkk ho hO
        exact wFnCg26_0
      · rw [hO] at q1 q2 hs
        rw [q1] at hb
        rw [q2, if_pos rfl] at hM
        subst hb hM
        clear q1 q2 hk n1 n2 n3 n4 s1 s2 hkk ho hO
        exact wFnCg26_0
    · obtain ⟨q1, q2⟩ := chg_none (show chRaw m x = none by simp only [chRaw, hk, if_true, if_neg hkk]; rfl)
      rw [q1] at hb
      rw [q2] at hM
      subst hb hM
      by_cases hm1 : m.kind = 1
      · have e1 : (m.kind != 1) = false := by rw [hm1]; rfl
        have e2 : (x.msg.kind != 1) = true := by rw [bne, show (x.msg.kind == 1) = false from by rw [beq_eq_false_iff_ne]; exact fun e => hkk ⟨hm1, e⟩]; rfl
        clear q1 q2 hk n1 n2 n3 n4 s1 s2 hkk hm1
        exact wFnCg26_0
      · have e1 : (m.kind != 1) = true := by rw [bne, show (m.kind == 1) = false from by rw [beq_eq_false_iff_ne]; exact hm1]; rfl
        clear q1 q2 hk n1 n2 n3 n4 s1 s2 hkk hm1
        exact wFnCg26_0
  · have k1 : (x.kind == 1) = false := by rw [hk]; rfl
    have k2 : (x.kind == 2) = false := by rw [hk]; rfl
    have k3 : (x.kind == 3) = true := by rw [hk]; rfl
    by_cases hkk : m.kind = 2 ∧ x.msg.kind = 2
    · have e1 : (m.kind != 2) = false := by rw [hkk.1]; rfl
      have e2 : (x.msg.kind != 2) = false := by rw [hkk.2]; rfl
      have ho : (⟨2, 0, m.text ++ x.msg.text⟩ : MsgV) = ⟨2, 0, m.text ++ x.msg.text⟩ := rfl
      obtain ⟨q1, q2⟩ := chg_some hA hB (show chRaw m x = some ⟨2, 0, m.text ++ x.msg.text⟩ by simp only [chRaw, hk, if_true, if_pos hkk]; rfl)
      rw [ho] at q1 q2
      have hs : Sound P 36 [.agg [.int .i64 2, .int .i64 0, .str (m.text ++ x.msg.text)]] (.bool (msgB ⟨2, 0, m.text ++ x.msg.text⟩)) := c_impl_MsgOk ⟨2, 0, m.text ++ x.msg.text⟩ rfl (show (m.text ++ x.msg.text).size < 4611686018427387904 by rw [ByteArray.size_append]; omega)
      cases hO : msgB ⟨2, 0, m.text ++ x.msg.text⟩
      · rw [hO] at q1 q2 hs
        rw [q1] at hb
        rw [q2, if_neg (by decide)] at hM
        subst hb hM
        clear q1 q2 hk n1 n2 n3 n4 s1 s2 hkk ho hO
        exact wFnCg26_0
      · rw [hO] at q1 q2 hs
        rw [q1] at hb
        rw [q2, if_pos rfl] at hM
        subst hb hM
        clear q1 q2 hk n1 n2 n3 n4 s1 s2 hkk ho hO
        exact wFnCg26_0
    · obtain ⟨q1, q2⟩ := chg_none (show chRaw m x = none by simp only [chRaw, hk, if_true, if_neg hkk]; rfl)
      rw [q1] at hb
      rw [q2] at hM
      subst hb hM
      by_cases hm1 : m.kind = 2
      · have e1 : (m.kind != 2) = false := by rw [hm1]; rfl
        have e2 : (x.msg.kind != 2) = true := by rw [bne, show (x.msg.kind == 2) = false from by rw [beq_eq_false_iff_ne]; exact fun e => hkk ⟨hm1, e⟩]; rfl
        clear q1 q2 hk n1 n2 n3 n4 s1 s2 hkk hm1
        exact wFnCg26_0
      · have e1 : (m.kind != 2) = true := by rw [bne, show (m.kind == 2) = false from by rw [beq_eq_false_iff_ne]; exact hm1]; rfl
        clear q1 q2 hk n1 n2 n3 n4 s1 s2 hkk hm1
        exact wFnCg26_0
  · have k1 : (x.kind == 1) = false := by rw [hk]; rfl
    have k2 : (x.kind == 2) = false := by rw [hk]; rfl
    have k3 : (x.kind == 3) = false := by rw [hk]; rfl
    have k4 : (x.kind == 4) = true := by rw [hk]; rfl
    obtain ⟨q1, q2⟩ := chg_some hA hB (show chRaw m x = some (if lessB m x.msg then x.msg else m) by simp only [chRaw, hk, if_true]; rfl)
    cases hl : lessB m x.msg
    · rw [hl] at q1 q2
      simp only [Bool.false_eq_true, if_false, hA, if_true] at q1 q2
      rw [q1] at hb
      rw [q2] at hM
      subst hb
      subst hM
      clear q1 q2 hk n1 n2 n3 n4 s1 s2
      exact wFnCg26_0
    · rw [hl] at q1 q2
      simp only [hB, if_true] at q1 q2
      rw [q1] at hb
      rw [q2] at hM
      subst hb hM
      clear q1 q2 hk n1 n2 n3 n4 s1 s2
      exact wFnCg26_0
  · have k1 : (x.kind == 1) = false := by rw [beq_eq_false_iff_ne]; exact h1
    have k2 : (x.kind == 2) = false := by rw [beq_eq_false_iff_ne]; exact h2
    have k3 : (x.kind == 3) = false := by rw [beq_eq_false_iff_ne]; exact h3
    have k4 : (x.kind == 4) = false := by rw [beq_eq_false_iff_ne]; exact h4
    obtain ⟨q1, q2⟩ := chg_none (show chRaw m x = none by simp only [chRaw, if_neg h1, if_neg h2, if_neg h3, if_neg h4])
    rw [q1] at hb
    rw [q2] at hM
    subst hb hM
    clear q1 q2 h1 h2 h3 h4 n1 n2 n3 n4 s1 s2
    exact wFnCg26_0
  all_goals (
    exact wFnCg26_0)
noncomputable abbrev ic_impl_Changed := Con.mk (P := P) (f := 26) Try.call26 @c_impl_Changed
attribute [instance] ic_impl_Changed
end Go.Proofs.Ytbeijohahflkeaa
