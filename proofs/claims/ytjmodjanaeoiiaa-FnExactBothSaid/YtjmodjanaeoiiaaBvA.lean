/- By-value values: annotated (CV) and erased (AV), what memory holds of them, and how they keep. Generic: no program. -/
import Derived.Orders
import Derived.Below
import Derived.Laws.CopyRow
import Derived.Laws.Cells
import Derived.Laws.Entries
import Derived.Laws.IdiomCopy
import Derived.Laws.AppendOwn
namespace Go.Bv
open Go Go.RowKit
set_option linter.unusedSimpArgs false
set_option linter.unusedVariables false

inductive CV where
  | undef (v : Value)
  | bool (b : Bool)
  | int (k : IntKind) (n : Int)
  | str (s : ByteArray)
  | lst (o : Bool) (s : Nat) (A : Option Addr) (c : Nat) (xs : List CV)
  | agg (xs : List CV)
  | tup (xs : List CV)
  | fn (f : Nat) (caps : List CV)
  | ip (a : Addr) (x : CV)
  | at (r : Nat) (p : List Nat) (a : Addr)
  | ref (r : Nat) (p : List Nat) (lo n : Nat) (v : Value)
  | box (b : Nat) (ty : TypeId) (x : CV)

inductive AV where
  | undef
  | bool (b : Bool)
  | int (k : IntKind) (n : Int)
  | str (s : ByteArray)
  | lst (o : Bool) (s : Nat) (xs : List AV)
  | agg (xs : List AV)
  | tup (xs : List AV)
  | fn (f : Nat) (caps : List AV)
  | ip (x : AV)
  | at (r : Nat) (p : List Nat)
  | ref (r : Nat) (p : List Nat) (lo n : Nat)
  | box (x : AV)

mutual
def er : CV → AV
  | .undef _ => .undef
  | .bool b => .bool b
  | .int k n => .int k n
  | .str s => .str s
  | .lst o s _ _ xs => .lst o s (ers xs)
  | .agg xs => .agg (ers xs)
  | .tup xs => .tup (ers xs)
  | .fn f xs => .fn f (ers xs)
  | .ip _ x => .ip (er x)
  | .at r p _ => .at r p
  | .ref r p lo n _ => .ref r p lo n
  | .box _ _ x => .box (er x)
def ers : List CV → List AV
  | [] => []
  | x :: xs => er x :: ers xs
end
theorem ers_eq (xs : List CV) : ers xs = xs.map er := by induction xs <;> simp [ers, *]

mutual
def flat : CV → List Value
  | .undef v => [v]
  | .bool b => [.bool b]
  | .int k n => [.int k n]
  | .str s => [.string s]
  | .lst _ _ A c xs => [.slice A xs.length c]
  | .agg xs => flats xs
  | .tup _ => [.nilFunc]
  | .fn f xs => [.func (.func f) #[] (flats xs).toArray]
  | .ip a _ => [.pointer (some a)]
  | .at _ _ a => [.pointer (some a)]
  | .ref _ _ _ _ v => [v]
  | .box b _ _ => [.pointer (some ⟨b, 0, none⟩)]
def flats : List CV → List Value
  | [] => []
  | x :: xs => flat x ++ flats xs
end
def val1 : CV → Value
  | .agg xs => .agg (flats xs).toArray
  | x => (flat x).headD .nilFunc
def val : CV → Value
  | .tup xs => .tuple (xs.map val1).toArray
  | x => val1 x

def CellsAt (w : World) (a : Addr) (vs : List Value) : Prop := ∀ j v, vs[j]? = some v → w.cell? (a.add j) = some v

mutual
def fp : CV → List Nat
  | .lst o _ A c xs => (if o = false ∨ c = 0 then [] else (A.map (·.block)).toList) ++ fps xs
  | .agg xs => fps xs
  | .tup xs => fps xs
  | .fn _ xs => fps xs
  | .box b _ x => b :: fp x
  | _ => []
def fps : List CV → List Nat
  | [] => []
  | x :: xs => fp x ++ fps xs
end

def HdrOk (w : World) (Z : Nat → Prop) (o : Bool) (s : Nat) (A : Option Addr) (c n : Nat) (vs : List Value) : Prop :=
  n ≤ c ∧ (n = 0 ∨ ∃ a, A = some a ∧ a.spot = none ∧ CellsAt w a vs ∧ (o = false → Z a.block)) ∧
  (o = true → c ≠ 0 → s ≠ 0 ∧ ∃ a cur E, A = some a ∧ a.spot = none ∧ w.heap[a.block]? = some (.cells cur E (0, 0)) ∧ c ≤ maxLen ∧ a.off + c * s ≤ cur.size)

mutual
def Ok (w : World) (Z : Nat → Prop) : CV → Prop
  | .lst o s A c xs => HdrOk w Z o s A c xs.length (flats xs) ∧ (∀ x ∈ xs, (flat x).length = s) ∧ (o = false → fps xs = []) ∧ OkL w Z xs
  | .agg xs => OkL w Z xs
  | .tup xs => OkL w Z xs
  | .fn _ xs => fps xs = [] ∧ OkL w Z xs
  | .ip a x => a.spot = none ∧ Z a.block ∧ CellsAt w a (flat x) ∧ fp x = [] ∧ Ok w Z x
  | .box b ty x => w.heap[b]? = some (.cells (flat x).toArray ty (0, 0)) ∧ Ok w Z x
  | _ => True
def OkL (w : World) (Z : Nat → Prop) : List CV → Prop
  | [] => True
  | x :: xs => Ok w Z x ∧ OkL w Z xs
end
theorem okL_iff {w : World} {Z : Nat → Prop} (xs : List CV) : OkL w Z xs ↔ ∀ x ∈ xs, Ok w Z x := by
  induction xs <;> simp [OkL, *]
theorem flats_append (xs ys : List CV) : flats (xs ++ ys) = flats xs ++ flats ys := by induction xs <;> simp [flats, *]
theorem fps_append (xs ys : List CV) : fps (xs ++ ys) = fps xs ++ fps ys := by induction xs <;> simp [fps, *]
theorem okL_append {w : World} {Z : Nat → Prop} (xs ys : List CV) : OkL w Z (xs ++ ys) ↔ OkL w Z xs ∧ OkL w Z ys := by
  induction xs <;> simp [OkL, and_assoc, *]
theorem ers_append (xs ys : List CV) : ers (xs ++ ys) = ers xs ++ ers ys := by simp [ers_eq]
theorem mem_fps {b : Nat} {xs : List CV} : b ∈ fps xs ↔ ∃ x ∈ xs, b ∈ fp x := by induction xs <;> simp [fps, *]

mutual
/-- How many cells a value takes. -/
def alen : AV → Nat
  | .agg xs => alens xs
  | _ => 1
def alens : List AV → Nat
  | [] => 0
  | x :: xs => alen x + alens xs
end
mutual
theorem alen_er : ∀ x : CV, alen (er x) = (flat x).length
  | .agg xs => by simp only [er, alen, flat]; exact alens_er xs
  | .undef _ | .bool _ | .int _ _ | .str _ | .lst _ _ _ _ _ | .fn _ _ | .ip _ _ | .at _ _ _ | .ref _ _ _ _ _ | .box _ _ _ | .tup _ => by simp [er, alen, flat]
theorem alens_er : ∀ xs : List CV, alens (ers xs) = (flats xs).length
  | [] => by simp [ers, alens, flats]
  | x :: xs => by simp only [ers, alens, flats, List.length_append, alens_er xs, alen_er x]
end

/-- A list cut at its i-th. -/
theorem cut_at {α : Type} {xs : List α} {i : Nat} {x : α} (h : xs[i]? = some x) : xs = xs.take i ++ x :: xs.drop (i + 1) := by
  obtain ⟨hi, rfl⟩ := List.getElem?_eq_some_iff.1 h
  simp
theorem set_at {α : Type} {xs : List α} {i : Nat} {x : α} (y : α) (h : xs[i]? = some x) : xs.set i y = xs.take i ++ y :: xs.drop (i + 1) := by
  obtain ⟨hi, rfl⟩ := List.getElem?_eq_some_iff.1 h
  rw [List.set_eq_take_append_cons_drop, if_pos hi]

/-! ### memory keeps -/
theorem CellsAt.congr {w w' : World} {a : Addr} {vs : List Value} (h : CellsAt w a vs) (hb : w'.heap[a.block]? = w.heap[a.block]?) : CellsAt w' a vs := by
  intro j v hj
  have hbl : (a.add j).block = a.block := by unfold Addr.add; split <;> rfl
  rw [World.cell?_of_block (w := w) (by rw [hbl]; exact hb)]
  exact h j v hj

theorem HdrOk.congr {w w' : World} {Z Z' : Nat → Prop} {o : Bool} {s : Nat} {A : Option Addr} {c n : Nat} {vs : List Value} (h : HdrOk w Z o s A c n vs)
    (hZ : ∀ b, Z b → Z' b) (h1 : o = false → ∀ b, Z b → w'.heap[b]? = w.heap[b]?) (h2 : o = true → c ≠ 0 → ∀ a, A = some a → w'.heap[a.block]? = w.heap[a.block]?) : HdrOk w' Z' o s A c n vs := by
  obtain ⟨hn, hc, ho⟩ := h
  refine ⟨hn, ?_, ?_⟩
  · rcases hc with hc | ⟨a, hA, hs, hcs, hz⟩
    · exact .inl hc
    · by_cases h0 : n = 0
      · exact .inl h0
      · refine .inr ⟨a, hA, hs, hcs.congr ?_, fun e => hZ _ (hz e)⟩
        cases o
        · exact h1 rfl _ (hz rfl)
        · exact h2 rfl (by omega) a hA
  · intro hos hc0
    obtain ⟨hn0, a, cur, E, hA, hs, hh, rest⟩ := ho hos hc0
    exact ⟨hn0, a, cur, E, hA, hs, (h2 hos hc0 a hA).trans hh, rest⟩

mutual
theorem Ok.congr {w w' : World} {Z Z' : Nat → Prop} (hZ : ∀ b, Z b → Z' b) (h1 : ∀ b, Z b → w'.heap[b]? = w.heap[b]?) :
    ∀ (x : CV), (∀ b ∈ fp x, w'.heap[b]? = w.heap[b]?) → Ok w Z x → Ok w' Z' x
  | .lst o s A c xs, h2, h => by
    simp only [fp, List.mem_append] at h2
    simp only [Ok] at h ⊢
    refine ⟨h.1.congr hZ (fun _ => h1) (fun ho hc a hA => ?_), h.2.1, h.2.2.1, OkL.congr hZ h1 xs (fun b hb => h2 b (.inr hb)) h.2.2.2⟩
    refine h2 a.block (.inl ?_)
    rw [if_neg (by simp [ho, hc]), hA]
    simp
  | .agg xs, h2, h => by simp only [Ok] at h ⊢; exact OkL.congr hZ h1 xs (by simpa [fp] using h2) h
  | .tup xs, h2, h => by simp only [Ok] at h ⊢; exact OkL.congr hZ h1 xs (by simpa [fp] using h2) h
  | .fn f xs, h2, h => by simp only [Ok] at h ⊢; exact ⟨h.1, OkL.congr hZ h1 xs (by simpa [fp] using h2) h.2⟩
  | .ip a x, _, h => by
    simp only [Ok] at h ⊢
    obtain ⟨hs, hz, hc, hf, hk⟩ := h
    exact ⟨hs, hZ _ hz, hc.congr (h1 _ hz), hf, Ok.congr hZ h1 x (by rw [hf]; simp) hk⟩
  | .box b ty x, h2, h => by
    simp only [Ok] at h ⊢
    simp only [fp, List.mem_cons] at h2
    exact ⟨(h2 b (.inl rfl)).trans h.1, Ok.congr hZ h1 x (fun b' hb => h2 b' (.inr hb)) h.2⟩
  | .undef _, _, _ => by simp [Ok]
  | .bool _, _, _ => by simp [Ok]
  | .int _ _, _, _ => by simp [Ok]
  | .str _, _, _ => by simp [Ok]
  | .at _ _ _, _, _ => by simp [Ok]
  | .ref _ _ _ _ _, _, _ => by simp [Ok]
theorem OkL.congr {w w' : World} {Z Z' : Nat → Prop} (hZ : ∀ b, Z b → Z' b) (h1 : ∀ b, Z b → w'.heap[b]? = w.heap[b]?) :
    ∀ (xs : List CV), (∀ b ∈ fps xs, w'.heap[b]? = w.heap[b]?) → OkL w Z xs → OkL w' Z' xs
  | [], _, _ => by simp [OkL]
  | x :: xs, h2, h => by
    simp only [OkL] at h ⊢
    simp only [fps, List.mem_append] at h2
    exact ⟨Ok.congr hZ h1 x (fun b hb => h2 b (.inl hb)) h.1, OkL.congr hZ h1 xs (fun b hb => h2 b (.inr hb)) h.2⟩
end
end Go.Bv
