/- Contracts: what a change makes of a message. -/
import Derived.Test.YtbeijohahflkeaaFnMl
import Derived.Test.YtbeijohahflkeaaKM
import Derived.Test.YtbeijohahflkeaaBvM5
namespace Go.Proofs.Ytbeijohahflkeaa
open Go Go.RowKit Go.Bv
set_option linter.unusedSimpArgs false
set_option linter.unusedVariables false
set_option maxRecDepth 4000
set_option maxHeartbeats 8000000

def noMsgC : MsgV := ⟨0, 0, { data := #[] }⟩
/-- What it becomes, if it is right. -/
def chRaw (m : MsgV) (x : ChangeV) : Option MsgV :=
  if x.kind = 1 then some x.msg
  else if x.kind = 2 then (if m.kind = 1 ∧ x.msg.kind = 1 then some ⟨1, m.num + x.msg.num, { data := #[] }⟩ else none)
  else if x.kind = 3 then (if m.kind = 2 ∧ x.msg.kind = 2 then some ⟨2, 0, m.text ++ x.msg.text⟩ else none)
  else if x.kind = 4 then some (if lessB m x.msg then x.msg else m)
  else none
def chgB (m : MsgV) (x : ChangeV) : Bool := msgB m && msgB x.msg && match chRaw m x with | some o => msgB o | none => false
def chgM (m : MsgV) (x : ChangeV) : MsgV := if chgB m x then (match chRaw m x with | some o => o | none => noMsgC) else noMsgC
theorem chg_left {m : MsgV} {x : ChangeV} (h : (msgB m && msgB x.msg) = false) : chgB m x = false ∧ chgM m x = noMsgC := by
  have : chgB m x = false := by rw [chgB, h, Bool.false_and]
  exact ⟨this, by rw [chgM, this]; rfl⟩
theorem chg_none {m : MsgV} {x : ChangeV} (h : chRaw m x = none) : chgB m x = false ∧ chgM m x = noMsgC := by
  have : chgB m x = false := by rw [chgB, h, Bool.and_false]
  exact ⟨this, by rw [chgM, this]; rfl⟩
theorem chg_some {m o : MsgV} {x : ChangeV} (hA : msgB m = true) (hB : msgB x.msg = true) (h : chRaw m x = some o) : chgB m x = msgB o ∧ chgM m x = if msgB o then o else noMsgC := by
  have : chgB m x = msgB o := by rw [chgB, hA, hB, h]; rfl
  exact ⟨this, by rw [chgM, this, h]⟩
theorem less_anti {a b : MsgV} (hA : msgB a = true) (hB : msgB b = true) (h1 : lessB a b = false) (h2 : lessB b a = false) : a = b := by
  simp only [lessB, hA, hB, Bool.and_self, Bool.true_and, lessM] at h1 h2
  obtain ⟨ak, an, at_⟩ := a
  obtain ⟨bk, bn, bt⟩ := b
  simp only at h1 h2
  by_cases hk : ak = bk
  · subst hk
    simp only [if_true] at h1 h2
    by_cases h : ak = 1
    · obtain ⟨ta, _⟩ := msg_one hA h
      obtain ⟨tb, _⟩ := msg_one hB h
      simp only at ta tb
      rw [if_pos h] at h1 h2
      simp only [decide_eq_false_iff_not] at h1 h2
      rw [ta, tb, show an = bn by omega]
    · have na := (msg_two hA h).2.1
      have nb := (msg_two hB h).2.1
      simp only at na nb
      rw [if_neg h] at h1 h2
      rw [← cmpS_less] at h1 h2
      have : at_ = bt := by
        apply ByteArray.ext
        apply Array.toList_inj.1
        exact cmp_eq _ _ (Int.not_lt.1 (of_decide_eq_false h1)) (Int.not_lt.1 (of_decide_eq_false h2))
      rw [na, nb, this]
  · rw [if_neg hk] at h1
    rw [if_neg (fun e => hk e.symm)] at h2
    simp only [decide_eq_false_iff_not] at h1 h2
    omega
where cmp_eq : ∀ x y : List UInt8, 0 ≤ Lib.compareBytes x y → 0 ≤ Lib.compareBytes y x → x = y
  | [], [], _, _ => rfl
  | [], _ :: _, h, _ => by simp [Lib.compareBytes] at h
  | _ :: _, [], _, h => by simp [Lib.compareBytes] at h
  | a :: x, b :: y, h1, h2 => by
    simp only [Lib.compareBytes] at h1 h2
    by_cases e1 : a < b
    · rw [if_pos e1] at h1; omega
    · by_cases e2 : b < a
      · rw [if_pos e2] at h2; omega
      · rw [if_neg e1, if_neg e2] at h1
        rw [if_neg e2, if_neg e1] at h2
        rw [UInt8.le_antisymm (UInt8.not_lt.1 e2) (UInt8.not_lt.1 e1), cmp_eq x y h1 h2]
end Go.Proofs.Ytbeijohahflkeaa
