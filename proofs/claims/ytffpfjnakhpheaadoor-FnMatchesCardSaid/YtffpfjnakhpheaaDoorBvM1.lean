/- Rules for by-value frames, generic, no program. -/
import Derived.Orders
import Derived.Below
import Derived.Laws.CopyRow
import Derived.Laws.Cells
import Derived.Laws.Entries
import Derived.Laws.IdiomCopy
import Derived.Laws.AppendOwn
import Derived.Laws.Pointers
import Derived.Laws.Rows
/-! By-value values: annotated (CV) and erased (AV), what memory holds of them, and how they keep. -/
namespace Go.Bv
open Go Go.RowKit
set_option linter.unusedSimpArgs false
set_option linter.unusedVariables false

inductive CV where
  | undef (v : Value)
  | bool (b : Bool)
  | int (k : IntKind) (n : Int)
  | str (s : ByteArray)
  | lst (o : Bool) (s : Nat) (A : Option Addr) (c : Nat) (xs : List CV)
  | agg (xs : List CV)
  | tup (xs : List CV)
  | fn (f : Nat) (caps : List CV)
  | ip (a : Addr) (x : CV)
  | at (r : Nat) (p : List Nat) (a : Addr)
  | ref (r : Nat) (p : List Nat) (lo n : Nat) (v : Value)
  | box (b : Nat) (ty : TypeId) (x : CV)

inductive AV where
  | undef
  | bool (b : Bool)
  | int (k : IntKind) (n : Int)
  | str (s : ByteArray)
  | lst (o : Bool) (s : Nat) (xs : List AV)
  | agg (xs : List AV)
  | tup (xs : List AV)
  | fn (f : Nat) (caps : List AV)
  | ip (x : AV)
  | at (r : Nat) (p : List Nat)
  | ref (r : Nat) (p : List Nat) (lo n : Nat)
  | box (x : AV)

mutual
def er : CV → AV
  | .undef _ => .undef
  | .bool b => .bool b
  | .int k n => .int k n
  | .str s => .str s
  | .lst o s _ _ xs => .lst o s (ers xs)
  | .agg xs => .agg (ers xs)
  | .tup xs => .tup (ers xs)
  | .fn f xs => .fn f (ers xs)
  | .ip _ x => .ip (er x)
  | .at r p _ => .at r p
  | .ref r p lo n _ => .ref r p lo n
  | .box _ _ x => .box (er x)
def ers : List CV → List AV
  | [] => []
  | x :: xs => er x :: ers xs
end
theorem ers_eq (xs : List CV) : ers xs = xs.map er := by induction xs <;> simp [ers, *]

mutual
def flat : CV → List Value
  | .undef v => [v]
  | .bool b => [.bool b]
  | .int k n => [.int k n]
  | .str s => [.string s]
  | .lst _ _ A c xs => [.slice A xs.length c]
  | .agg xs => flats xs
  | .tup _ => [.nilFunc]
  | .fn f xs => [.func (.func f) #[] (flats xs).toArray]
  | .ip a _ => [.pointer (some a)]
  | .at _ _ a => [.pointer (some a)]
  | .ref _ _ _ _ v => [v]
  | .box b _ _ => [.pointer (some ⟨b, 0, none⟩)]
def flats : List CV → List Value
  | [] => []
  | x :: xs => flat x ++ flats xs
end
def val1 : CV → Value
  | .agg xs => .agg (flats xs).toArray
  | x => (flat x).headD .nilFunc
def val : CV → Value
  | .tup xs => .tuple (xs.map val1).toArray
  | x => val1 x

def CellsAt (w : World) (a : Addr) (vs : List Value) : Prop := ∀ j v, vs[j]? = some v → w.cell? (a.add j) = some v

mutual
def fp : CV → List Nat
  | .lst o _ A c xs => (if o = false ∨ c = 0 then [] else (A.map (·.block)).toList) ++ fps xs
  | .agg xs => fps xs
  | .tup xs => fps xs
  | .fn _ xs => fps xs
  | .box b _ x => b :: fp x
  | _ => []
def fps : List CV → List Nat
  | [] => []
  | x :: xs => fp x ++ fps xs
end

def HdrOk (w : World) (Z : Nat → Prop) (o : Bool) (s : Nat) (A : Option Addr) (c n : Nat) (vs : List Value) : Prop :=
  n ≤ c ∧ (n = 0 ∨ ∃ a, A = some a ∧ a.spot = none ∧ CellsAt w a vs ∧ (o = false → Z a.block)) ∧
  (o = true → c ≠ 0 → s ≠ 0 ∧ ∃ a cur E, A = some a ∧ a.spot = none ∧ w.heap[a.block]? = some (.cells cur E (0, 0)) ∧ c ≤ maxLen ∧ a.off + c * s ≤ cur.size)

mutual
def Ok (w : World) (Z : Nat → Prop) : CV → Prop
  | .lst o s A c xs => HdrOk w Z o s A c xs.length (flats xs) ∧ (∀ x ∈ xs, (flat x).length = s) ∧ (o = false → fps xs = []) ∧ OkL w Z xs
  | .agg xs => OkL w Z xs
  | .tup xs => OkL w Z xs
  | .fn _ xs => fps xs = [] ∧ OkL w Z xs
  | .ip a x => a.spot = none ∧ Z a.block ∧ CellsAt w a (flat x) ∧ fp x = [] ∧ Ok w Z x
  | .box b ty x => w.heap[b]? = some (.cells (flat x).toArray ty (0, 0)) ∧ Ok w Z x
  | _ => True
def OkL (w : World) (Z : Nat → Prop) : List CV → Prop
  | [] => True
  | x :: xs => Ok w Z x ∧ OkL w Z xs
end
theorem okL_iff {w : World} {Z : Nat → Prop} (xs : List CV) : OkL w Z xs ↔ ∀ x ∈ xs, Ok w Z x := by
  induction xs <;> simp [OkL, *]
theorem flats_append (xs ys : List CV) : flats (xs ++ ys) = flats xs ++ flats ys := by induction xs <;> simp [flats, *]
theorem fps_append (xs ys : List CV) : fps (xs ++ ys) = fps xs ++ fps ys := by induction xs <;> simp [fps, *]
theorem okL_append {w : World} {Z : Nat → Prop} (xs ys : List CV) : OkL w Z (xs ++ ys) ↔ OkL w Z xs ∧ OkL w Z ys := by
  induction xs <;> simp [OkL, and_assoc, *]
theorem ers_append (xs ys : List CV) : ers (xs ++ ys) = ers xs ++ ers ys := by simp [ers_eq]
theorem mem_fps {b : Nat} {xs : List CV} : b ∈ fps xs ↔ ∃ x ∈ xs, b ∈ fp x := by induction xs <;> simp [fps, *]

mutual
/-- How many cells a value takes. -/
def alen : AV → Nat
  | .agg xs => alens xs
  | _ => 1
def alens : List AV → Nat
  | [] => 0
  | x :: xs => alen x + alens xs
end
mutual
theorem alen_er : ∀ x : CV, alen (er x) = (flat x).length
  | .agg xs => by simp only [er, alen, flat]; exact alens_er xs
  | .undef _ | .bool _ | .int _ _ | .str _ | .lst _ _ _ _ _ | .fn _ _ | .ip _ _ | .at _ _ _ | .ref _ _ _ _ _ | .box _ _ _ | .tup _ => by simp [er, alen, flat]
theorem alens_er : ∀ xs : List CV, alens (ers xs) = (flats xs).length
  | [] => by simp [ers, alens, flats]
  | x :: xs => by simp only [ers, alens, flats, List.length_append, alens_er xs, alen_er x]
end

/-- A list cut at its i-th. -/
theorem cut_at {α : Type} {xs : List α} {i : Nat} {x : α} (h : xs[i]? = some x) : xs = xs.take i ++ x :: xs.drop (i + 1) := by
  obtain ⟨hi, rfl⟩ := List.getElem?_eq_some_iff.1 h
  simp
theorem set_at {α : Type} {xs : List α} {i : Nat} {x : α} (y : α) (h : xs[i]? = some x) : xs.set i y = xs.take i ++ y :: xs.drop (i + 1) := by
  obtain ⟨hi, rfl⟩ := List.getElem?_eq_some_iff.1 h
  rw [List.set_eq_take_append_cons_drop, if_pos hi]

/-! ### memory keeps -/
theorem CellsAt.congr {w w' : World} {a : Addr} {vs : List Value} (h : CellsAt w a vs) (hb : w'.heap[a.block]? = w.heap[a.block]?) : CellsAt w' a vs := by
  intro j v hj
  have hbl : (a.add j).block = a.block := by unfold Addr.add; split <;> rfl
  rw [World.cell?_of_block (w := w) (by rw [hbl]; exact hb)]
  exact h j v hj

theorem HdrOk.congr {w w' : World} {Z Z' : Nat → Prop} {o : Bool} {s : Nat} {A : Option Addr} {c n : Nat} {vs : List Value} (h : HdrOk w Z o s A c n vs)
    (hZ : ∀ b, Z b → Z' b) (h1 : o = false → ∀ b, Z b → w'.heap[b]? = w.heap[b]?) (h2 : o = true → c ≠ 0 → ∀ a, A = some a → w'.heap[a.block]? = w.heap[a.block]?) : HdrOk w' Z' o s A c n vs := by
  obtain ⟨hn, hc, ho⟩ := h
  refine ⟨hn, ?_, ?_⟩
  · rcases hc with hc | ⟨a, hA, hs, hcs, hz⟩
    · exact .inl hc
    · by_cases h0 : n = 0
      · exact .inl h0
      · refine .inr ⟨a, hA, hs, hcs.congr ?_, fun e => hZ _ (hz e)⟩
        cases o
        · exact h1 rfl _ (hz rfl)
        · exact h2 rfl (by omega) a hA
  · intro hos hc0
    obtain ⟨hn0, a, cur, E, hA, hs, hh, rest⟩ := ho hos hc0
    exact ⟨hn0, a, cur, E, hA, hs, (h2 hos hc0 a hA).trans hh, rest⟩

mutual
theorem Ok.congr {w w' : World} {Z Z' : Nat → Prop} (hZ : ∀ b, Z b → Z' b) (h1 : ∀ b, Z b → w'.heap[b]? = w.heap[b]?) :
    ∀ (x : CV), (∀ b ∈ fp x, w'.heap[b]? = w.heap[b]?) → Ok w Z x → Ok w' Z' x
  | .lst o s A c xs, h2, h => by
    simp only [fp, List.mem_append] at h2
    simp only [Ok] at h ⊢
    refine ⟨h.1.congr hZ (fun _ => h1) (fun ho hc a hA => ?_), h.2.1, h.2.2.1, OkL.congr hZ h1 xs (fun b hb => h2 b (.inr hb)) h.2.2.2⟩
    refine h2 a.block (.inl ?_)
    rw [if_neg (by simp [ho, hc]), hA]
    simp
  | .agg xs, h2, h => by simp only [Ok] at h ⊢; exact OkL.congr hZ h1 xs (by simpa [fp] using h2) h
  | .tup xs, h2, h => by simp only [Ok] at h ⊢; exact OkL.congr hZ h1 xs (by simpa [fp] using h2) h
  | .fn f xs, h2, h => by simp only [Ok] at h ⊢; exact ⟨h.1, OkL.congr hZ h1 xs (by simpa [fp] using h2) h.2⟩
  | .ip a x, _, h => by
    simp only [Ok] at h ⊢
    obtain ⟨hs, hz, hc, hf, hk⟩ := h
    exact ⟨hs, hZ _ hz, hc.congr (h1 _ hz), hf, Ok.congr hZ h1 x (by rw [hf]; simp) hk⟩
  | .box b ty x, h2, h => by
    simp only [Ok] at h ⊢
    simp only [fp, List.mem_cons] at h2
    exact ⟨(h2 b (.inl rfl)).trans h.1, Ok.congr hZ h1 x (fun b' hb => h2 b' (.inr hb)) h.2⟩
  | .undef _, _, _ => by simp [Ok]
  | .bool _, _, _ => by simp [Ok]
  | .int _ _, _, _ => by simp [Ok]
  | .str _, _, _ => by simp [Ok]
  | .at _ _ _, _, _ => by simp [Ok]
  | .ref _ _ _ _ _, _, _ => by simp [Ok]
theorem OkL.congr {w w' : World} {Z Z' : Nat → Prop} (hZ : ∀ b, Z b → Z' b) (h1 : ∀ b, Z b → w'.heap[b]? = w.heap[b]?) :
    ∀ (xs : List CV), (∀ b ∈ fps xs, w'.heap[b]? = w.heap[b]?) → OkL w Z xs → OkL w' Z' xs
  | [], _, _ => by simp [OkL]
  | x :: xs, h2, h => by
    simp only [OkL] at h ⊢
    simp only [fps, List.mem_append] at h2
    exact ⟨Ok.congr hZ h1 x (fun b hb => h2 b (.inl hb)) h.1, OkL.congr hZ h1 xs (fun b hb => h2 b (.inr hb)) h.2⟩
end
end Go.Bv

/-! Paths into by-value values, and what a store at the end of a path does. -/
namespace Go.Bv
open Go Go.RowKit
set_option linter.unusedSimpArgs false
set_option linter.unusedVariables false

def agetN : AV → List Nat → Option AV
  | x, [] => some x
  | .lst o _ xs, i :: p => if o = false then none else match xs[i]? with | some y => agetN y p | none => none
  | .agg xs, i :: p => match xs[i]? with | some y => agetN y p | none => none
  | _, _ :: _ => none
def asetN : AV → List Nat → AV → AV
  | _, [], y => y
  | .lst o s xs, i :: p, y => match xs[i]? with | some x => .lst o s (xs.set i (asetN x p y)) | none => .lst o s xs
  | .agg xs, i :: p, y => match xs[i]? with | some x => .agg (xs.set i (asetN x p y)) | none => .agg xs
  | x, _ :: _, _ => x
def cgetN : CV → Option Addr → List Nat → Option (CV × Option Addr)
  | x, l, [] => some (x, l)
  | .lst o s A _ xs, _, i :: p => if o = false then none else match xs[i]? with | some y => cgetN y (A.map (·.add (i * s))) p | none => none
  | .agg xs, l, i :: p => match xs[i]? with | some y => cgetN y (l.map (·.add (flats (xs.take i)).length)) p | none => none
  | _, _, _ :: _ => none
def csetN : CV → List Nat → CV → CV
  | _, [], y => y
  | .lst o s A c xs, i :: p, y => match xs[i]? with | some x => .lst o s A c (xs.set i (csetN x p y)) | none => .lst o s A c xs
  | .agg xs, i :: p, y => match xs[i]? with | some x => .agg (xs.set i (csetN x p y)) | none => .agg xs
  | x, _ :: _, _ => x

theorem er_get : ∀ (p : List Nat) (x : CV) (l : Option Addr) (y : CV) (l' : Option Addr), cgetN x l p = some (y, l') → agetN (er x) p = some (er y)
  | [], x, l, y, l', h => by simp only [cgetN, Option.some.injEq, Prod.mk.injEq] at h; simp [agetN, h.1]
  | i :: p, x, l, y, l', h => by
    cases x <;> simp only [cgetN] at h <;> try (cases h; done)
    · rename_i o s A c xs
      split at h
      · cases h
      · rename_i ho
        split at h
        · rename_i z hz
          simp only [er, agetN, if_neg ho, ers_eq, List.getElem?_map, hz, Option.map_some]
          exact er_get p z _ y l' h
        · cases h
    · rename_i xs
      split at h
      · rename_i z hz
        simp only [er, agetN, ers_eq, List.getElem?_map, hz, Option.map_some]
        exact er_get p z _ y l' h
      · cases h
theorem er_get' : ∀ (p : List Nat) (x : CV) (l : Option Addr) (y : AV), agetN (er x) p = some y → ∃ z l', cgetN x l p = some (z, l') ∧ er z = y
  | [], x, l, y, h => by simp only [agetN, Option.some.injEq] at h; exact ⟨x, l, rfl, h⟩
  | i :: p, x, l, y, h => by
    cases x <;> simp only [er, agetN] at h <;> try (cases h; done)
    · rename_i o s A c xs
      split at h
      · cases h
      · rename_i ho
        simp only [ers_eq, List.getElem?_map] at h
        cases hz : xs[i]? with
        | none => simp [hz] at h
        | some z => simp only [hz, Option.map_some] at h; simp only [cgetN, if_neg ho, hz]; exact er_get' p z _ y h
    · rename_i xs
      simp only [ers_eq, List.getElem?_map] at h
      cases hz : xs[i]? with
      | none => simp [hz] at h
      | some z => simp only [hz, Option.map_some] at h; simp only [cgetN, hz]; exact er_get' p z _ y h
theorem er_set : ∀ (p : List Nat) (x : CV) (y : CV), er (csetN x p y) = asetN (er x) p (er y)
  | [], x, y => by simp [csetN, asetN]
  | i :: p, x, y => by
    cases x <;> simp only [csetN, er, asetN]
    · rename_i o s A c xs
      simp only [ers_eq, List.getElem?_map]
      cases hz : xs[i]? with
      | none => simp [er, ers_eq]
      | some z => simp [er, ers_eq, List.map_set, er_set p z y]
    · rename_i xs
      simp only [ers_eq, List.getElem?_map]
      cases hz : xs[i]? with
      | none => simp [er, ers_eq]
      | some z => simp [er, ers_eq, List.map_set, er_set p z y]

/-! ### places -/
theorem add_eq {a : Addr} (h : a.spot = none) (n : Nat) : a.add n = ⟨a.block, a.off + n, none⟩ := by
  unfold Addr.add
  split
  · cases a; simp_all
  · rfl
theorem cellsAt_iff {w : World} {a : Addr} {vs : List Value} (h : a.spot = none) : CellsAt w a vs ↔ ∀ j v, vs[j]? = some v → w.cell? ⟨a.block, a.off + j, none⟩ = some v := by
  simp only [CellsAt, add_eq h]
theorem cellsAt_append {w : World} {a : Addr} {xs ys : List Value} (h : a.spot = none) : CellsAt w a (xs ++ ys) ↔ CellsAt w a xs ∧ CellsAt w (a.add xs.length) ys := by
  have h' : (a.add xs.length).spot = none := by rw [add_eq h]
  rw [cellsAt_iff h, cellsAt_iff h, cellsAt_iff h', add_eq h]
  constructor
  · intro H
    refine ⟨fun j v hj => H j v ?_, fun j v hj => ?_⟩
    · rw [List.getElem?_append_left (List.getElem?_eq_some_iff.1 hj).1]; exact hj
    · have := H (xs.length + j) v (by rw [List.getElem?_append_right (by omega)]; simpa using hj)
      simpa [Nat.add_assoc] using this
  · rintro ⟨H1, H2⟩ j v hj
    rcases Nat.lt_or_ge j xs.length with hlt | hge
    · exact H1 j v (by rwa [List.getElem?_append_left hlt] at hj)
    · rw [List.getElem?_append_right hge] at hj
      have := H2 (j - xs.length) v hj
      simp only [] at this
      rwa [show a.off + xs.length + (j - xs.length) = a.off + j by omega] at this
theorem add_add {a : Addr} (h : a.spot = none) (m n : Nat) : (a.add m).add n = a.add (m + n) := by
  rw [add_eq h, add_eq h, add_eq (by rfl)]; simp [Nat.add_assoc]
theorem add_block (a : Addr) (n : Nat) : (a.add n).block = a.block := by unfold Addr.add; split <;> rfl
theorem add_spot {a : Addr} (h : a.spot = none) (n : Nat) : (a.add n).spot = none := by rw [add_eq h]

theorem flats_len_of {s : Nat} : ∀ {xs : List CV}, (∀ x ∈ xs, (flat x).length = s) → (flats xs).length = xs.length * s
  | [], _ => by simp [flats]
  | x :: xs, h => by
    simp only [flats, List.length_append, List.length_cons]
    rw [h x (by simp), flats_len_of (xs := xs) fun y hy => h y (by simp [hy]), Nat.add_mul]; omega

/-- What a world is behind a store of n cells at ad. -/
structure Stored (w w' : World) (ad : Addr) (n : Nat) : Prop where
  other : ∀ b, b ≠ ad.block → w'.heap[b]? = w.heap[b]?
  hit : ∀ cur E, w.heap[ad.block]? = some (.cells cur E (0, 0)) → ∃ cur', w'.heap[ad.block]? = some (.cells cur' E (0, 0)) ∧ cur'.size = cur.size
  cell : ∀ k, (k < ad.off ∨ ad.off + n ≤ k) → w'.cell? ⟨ad.block, k, none⟩ = w.cell? ⟨ad.block, k, none⟩

theorem Stored.cellsAt {w w' : World} {ad : Addr} {n : Nat} (H : Stored w w' ad n) {a : Addr} {vs : List Value} (hs : a.spot = none) (h : CellsAt w a vs)
    (hd : a.block = ad.block → a.off + vs.length ≤ ad.off ∨ ad.off + n ≤ a.off) : CellsAt w' a vs := by
  by_cases hb : a.block = ad.block
  · rw [cellsAt_iff hs] at h ⊢
    intro j v hj
    have hlt := (List.getElem?_eq_some_iff.1 hj).1
    rw [hb, H.cell _ (by rcases hd hb with h | h <;> omega), ← hb]
    exact h j v hj
  · exact h.congr (H.other _ hb)

theorem fp_set : ∀ (p : List Nat) (x : CV) (l : Option Addr) (y : CV) (l' : Option Addr), cgetN x l p = some (y, l') → ∃ L R, fp x = L ++ fp y ++ R ∧ ∀ z, fp (csetN x p z) = L ++ fp z ++ R
  | [], x, l, y, l', h => by
    simp only [cgetN, Option.some.injEq, Prod.mk.injEq] at h
    exact ⟨[], [], by simp [h.1], fun z => by simp [csetN]⟩
  | i :: p, x, l, y, l', h => by
    cases x <;> simp only [cgetN] at h <;> try (cases h; done)
    · rename_i o s A c xs
      split at h
      · cases h
      · split at h
        · rename_i z hz
          obtain ⟨L, R, h1, h2⟩ := fp_set p z _ y l' h
          refine ⟨(if o = false ∨ c = 0 then [] else (A.map (·.block)).toList) ++ fps (xs.take i) ++ L, R ++ fps (xs.drop (i + 1)), ?_, fun u => ?_⟩
          · conv => lhs; rw [cut_at hz]
            simp [fp, fps, fps_append, h1]
          · simp only [csetN, hz]
            rw [set_at _ hz]
            simp [fp, fps, fps_append, h2]
        · cases h
    · rename_i xs
      split at h
      · rename_i z hz
        obtain ⟨L, R, h1, h2⟩ := fp_set p z _ y l' h
        refine ⟨fps (xs.take i) ++ L, R ++ fps (xs.drop (i + 1)), ?_, fun u => ?_⟩
        · conv => lhs; rw [cut_at hz]
          simp [fp, fps, fps_append, h1]
        · simp only [csetN, hz]
          rw [set_at _ hz]
          simp [fp, fps, fps_append, h2]
      · cases h
end Go.Bv

/-! A store at the end of a path: what is told of the whole value stays told. -/
namespace Go.Bv
open Go Go.RowKit
set_option linter.unusedSimpArgs false
set_option linter.unusedVariables false

theorem okL_cut {w : World} {Z : Nat → Prop} {xs : List CV} {i : Nat} {x : CV} (h : xs[i]? = some x) : OkL w Z xs ↔ OkL w Z (xs.take i) ∧ Ok w Z x ∧ OkL w Z (xs.drop (i + 1)) := by
  conv => lhs; rw [cut_at h]
  rw [okL_append]; simp only [OkL]
theorem flats_cut {xs : List CV} {i : Nat} {x : CV} (h : xs[i]? = some x) : flats xs = flats (xs.take i) ++ (flat x ++ flats (xs.drop (i + 1))) := by
  conv => lhs; rw [cut_at h]
  rw [flats_append]; simp only [flats]
theorem fps_cut {xs : List CV} {i : Nat} {x : CV} (h : xs[i]? = some x) : fps xs = fps (xs.take i) ++ (fp x ++ fps (xs.drop (i + 1))) := by
  conv => lhs; rw [cut_at h]
  rw [fps_append]; simp only [fps]
theorem flats_set {xs : List CV} {i : Nat} {x y : CV} (h : xs[i]? = some x) : flats (xs.set i y) = flats (xs.take i) ++ (flat y ++ flats (xs.drop (i + 1))) := by
  rw [set_at y h, flats_append]; simp only [flats]
theorem okL_set {w : World} {Z : Nat → Prop} {xs : List CV} {i : Nat} {x y : CV} (h : xs[i]? = some x) : OkL w Z (xs.set i y) ↔ OkL w Z (xs.take i) ∧ Ok w Z y ∧ OkL w Z (xs.drop (i + 1)) := by
  rw [set_at y h, okL_append]; simp only [OkL]

theorem Stored.ok {w w' : World} {ad : Addr} {n : Nat} (H : Stored w w' ad n) {Z : Nat → Prop} (hz : ¬ Z ad.block) {x : CV} (hf : ad.block ∉ fp x) (h : Ok w Z x) : Ok w' Z x :=
  Ok.congr (fun _ h => h) (fun b hb => H.other b fun e => hz (e ▸ hb)) x (fun b hb => H.other b fun e => hf (e ▸ hb)) h
theorem Stored.okL {w w' : World} {ad : Addr} {n : Nat} (H : Stored w w' ad n) {Z : Nat → Prop} (hz : ¬ Z ad.block) {xs : List CV} (hf : ad.block ∉ fps xs) (h : OkL w Z xs) : OkL w' Z xs :=
  OkL.congr (fun _ h => h) (fun b hb => H.other b fun e => hz (e ▸ hb)) xs (fun b hb => H.other b fun e => hf (e ▸ hb)) h

/-- What holds of a value that lies (or not) at a place, behind the store. -/
structure Upd (w' : World) (Z : Nat → Prop) (ad : Addr) (n : Nat) (x x' : CV) (l : Option Addr) : Prop where
  ok : Ok w' Z x'
  len : (flat x').length = (flat x).length
  at_ : ∀ a, l = some a → CellsAt w' a (flat x') ∧ (ad.block = a.block → a.off ≤ ad.off ∧ ad.off + n ≤ a.off + (flat x).length)
  where_ : ad.block ∈ fp x ∨ ∃ a, l = some a ∧ ad.block = a.block

theorem upd {w w' : World} {Z : Nat → Prop} {ad : Addr} {n : Nat} {y y' : CV} (H : Stored w w' ad n) (hz : ¬ Z ad.block) (hn : n = (flat y).length) (hlen : (flat y').length = (flat y).length)
    (hnew : CellsAt w' ad (flat y')) (hok : Ok w' Z y') :
    ∀ (p : List Nat) (x : CV) (l : Option Addr), Ok w Z x → (fp x).Nodup → (∀ a, l = some a → a.spot = none ∧ a.block ∉ fp x ∧ CellsAt w a (flat x)) →
      cgetN x l p = some (y, some ad) → Upd w' Z ad n x (csetN x p y') l
  | [], x, l, _, _, hl, h => by
    simp only [cgetN, Option.some.injEq, Prod.mk.injEq] at h
    obtain ⟨rfl, rfl⟩ := h
    simp only [csetN]
    refine ⟨hok, hlen, fun a ha => ?_, .inr ⟨ad, rfl, rfl⟩⟩
    cases ha
    exact ⟨hnew, fun _ => ⟨Nat.le_refl _, by omega⟩⟩
  | i :: p, x, l, hx, hnd, hl, h => by
    cases x <;> simp only [cgetN] at h <;> try (cases h; done)
    · rename_i o s A c xs
      split at h
      · cases h
      rename_i ho
      split at h
      case h_2 => cases h
      rename_i z hzi
      simp only [Ok] at hx
      obtain ⟨hh, hs, hsh, hxs⟩ := hx
      have hi := (List.getElem?_eq_some_iff.1 hzi).1
      have hc0 : c ≠ 0 := by have := hh.1; omega
      have ho1 : o = true := by simpa using ho
      obtain ⟨hx0, a, cur, E, rfl, hasp, hblk, hcm, hroom⟩ := hh.2.2 ho1 hc0
      have hcells : CellsAt w a (flats xs) := by
        rcases hh.2.1 with h0 | ⟨a', ha', _, hc', _⟩
        · omega
        · cases ha'; exact hc'
      have hfpx : fp (.lst o s (some a) c xs) = a.block :: fps xs := by simp [fp, ho, hc0]
      rw [hfpx] at hnd
      have hnd' := List.nodup_cons.1 hnd
      have hseg := flats_cut hzi
      have hoff : (flats (xs.take i)).length = i * s := by
        rw [flats_len_of (s := s) fun x hx => hs x (List.mem_of_mem_take hx)]; simp [Nat.min_eq_left (Nat.le_of_lt hi)]
      have hcz : CellsAt w (a.add (i * s)) (flat z) := by
        rw [hseg, cellsAt_append hasp, hoff, cellsAt_append (add_spot hasp _)] at hcells
        exact hcells.2.1
      have hndx : (fps xs).Nodup := hnd'.2
      have hfc := fps_cut hzi
      have hlz : (flat z).length = s := hs z (List.mem_of_getElem? hzi)
      have ih := upd H hz hn hlen hnew hok p z (some (a.add (i * s))) ((okL_cut hzi).1 hxs).2.1
        (by rw [hfc] at hndx; exact (List.nodup_append.1 (List.nodup_append.1 hndx).2.1).1)
        (fun a' ha' => by
          cases ha'
          refine ⟨add_spot hasp _, ?_, hcz⟩
          rw [add_block]
          intro hm; exact hnd'.1 (by rw [hfc]; simp [hm])) h
      obtain ⟨iok, ilen, iat, iwh⟩ := ih
      obtain ⟨icells, irange⟩ := iat _ rfl
      have hin : ad.block = a.block ∨ ad.block ∈ fp z := by
        rcases iwh with h' | ⟨a', ha', hb⟩
        · exact .inr h'
        · cases ha'; rw [add_block] at hb; exact .inl hb
      have hrange : ad.block = a.block → a.off + i * s ≤ ad.off ∧ ad.off + n ≤ a.off + i * s + s := fun e => by
        have := irange (by rw [add_block]; exact e)
        rw [add_eq hasp, hlz] at this
        exact this
      -- the siblings are apart
      have hnt : ad.block ∉ fps (xs.take i) := by
        rw [hfc] at hnd'
        rcases hin with e | hm
        · rw [e]; intro hm; exact hnd'.1 (by simp [hm])
        · intro hm'
          have hd := (List.nodup_append.1 hnd'.2).2.2
          exact hd _ hm' _ (by simp [hm]) rfl
      have hndp : ad.block ∉ fps (xs.drop (i + 1)) := by
        rw [hfc] at hnd'
        rcases hin with e | hm
        · rw [e]; intro hm; exact hnd'.1 (by simp [hm])
        · intro hm'
          have hd := (List.nodup_append.1 (List.nodup_append.1 hnd'.2).2.1).2.2
          exact hd _ hm _ hm' rfl
      obtain ⟨ok1, _, ok3⟩ := (okL_cut hzi).1 hxs
      have hcut : CellsAt w a (flats (xs.take i)) ∧ CellsAt w (a.add (i * s)) (flat z) ∧ CellsAt w ((a.add (i * s)).add s) (flats (xs.drop (i + 1))) := by
        rw [hseg, cellsAt_append hasp, hoff, cellsAt_append (add_spot hasp _), hlz] at hcells
        exact hcells
      have hc1 : CellsAt w' a (flats (xs.take i)) := H.cellsAt hasp hcut.1 fun e => .inl (by rw [hoff]; exact (hrange e.symm).1)
      have hc3 : CellsAt w' ((a.add (i * s)).add s) (flats (xs.drop (i + 1))) := H.cellsAt (add_spot (add_spot hasp _) _) hcut.2.2 fun e => .inr (by
        rw [add_add hasp, add_eq hasp] at e ⊢
        have := (hrange e.symm).2
        simp only; omega)
      have hnewcells : CellsAt w' a (flats (xs.set i (csetN z p y'))) := by
        rw [flats_set hzi, cellsAt_append hasp, hoff, cellsAt_append (add_spot hasp _), ilen, hlz]
        exact ⟨hc1, icells, hc3⟩
      simp only [csetN, hzi]
      refine ⟨?_, by simp [flat], ?_, ?_⟩
      · simp only [Ok]
        refine ⟨⟨by simpa using hh.1, .inr ⟨a, rfl, hasp, hnewcells, fun e => absurd e ho⟩, fun _ _ => ?_⟩, ?_, fun e => absurd e ho, ?_⟩
        · by_cases hb : a.block = ad.block
          · obtain ⟨cur', h1, h2⟩ := H.hit cur E (hb ▸ hblk)
            exact ⟨hx0, a, cur', E, rfl, hasp, hb ▸ h1, hcm, by rw [h2]; exact hroom⟩
          · exact ⟨hx0, a, cur, E, rfl, hasp, (H.other _ hb).trans hblk, hcm, hroom⟩
        · intro x hx
          rw [set_at _ hzi] at hx
          rcases List.mem_append.1 hx with hx | hx
          · exact hs x (List.mem_of_mem_take hx)
          · rcases List.mem_cons.1 hx with rfl | hx
            · rw [ilen]; exact hlz
            · exact hs x (List.mem_of_mem_drop hx)
        · rw [okL_set hzi]
          exact ⟨H.okL hz hnt ok1, iok, H.okL hz hndp ok3⟩
      · intro a' ha'
        obtain ⟨h1, h2, h3⟩ := hl a' ha'
        have hne : ad.block ≠ a'.block := fun e => h2 (by
          rw [hfpx, ← e]
          rcases hin with e' | hm
          · rw [e']; simp
          · rw [hfc]; simp [hm])
        refine ⟨?_, fun e => absurd e hne⟩
        have hflat : flat (.lst o s (some a) c (xs.set i (csetN z p y'))) = flat (.lst o s (some a) c xs) := by simp [flat]
        rw [hflat]
        exact h3.congr (H.other _ (Ne.symm hne))
      · refine .inl ?_
        rw [hfpx]
        rcases hin with e' | hm
        · rw [e']; simp
        · rw [hfc]; simp [hm]
    · rename_i xs
      split at h
      case h_2 => cases h
      rename_i z hzi
      simp only [Ok] at hx
      simp only [fp] at hnd hl
      have hi := (List.getElem?_eq_some_iff.1 hzi).1
      have hseg := flats_cut hzi
      have hfc := fps_cut hzi
      have ih := upd H hz hn hlen hnew hok p z (l.map (·.add (flats (xs.take i)).length)) ((okL_cut hzi).1 hx).2.1
        (by rw [hfc] at hnd; exact (List.nodup_append.1 (List.nodup_append.1 hnd).2.1).1)
        (fun a' ha' => by
          cases l with
          | none => simp at ha'
          | some a =>
            simp only [Option.map_some, Option.some.injEq] at ha'
            subst ha'
            obtain ⟨h1, h2, h3⟩ := hl a rfl
            refine ⟨add_spot h1 _, ?_, ?_⟩
            · rw [add_block]
              intro hm; exact h2 (by rw [hfc]; simp [hm])
            · simp only [flat] at h3
              rw [hseg, cellsAt_append h1, cellsAt_append (add_spot h1 _)] at h3
              exact h3.2.1) h
      obtain ⟨iok, ilen, iat, iwh⟩ := ih
      have hin : (∃ a, l = some a ∧ ad.block = a.block) ∨ ad.block ∈ fp z := by
        rcases iwh with h' | ⟨a', ha', hb⟩
        · exact .inr h'
        · cases l with
          | none => simp at ha'
          | some a => simp only [Option.map_some, Option.some.injEq] at ha'; subst ha'; rw [add_block] at hb; exact .inl ⟨a, rfl, hb⟩
      have hnt : ad.block ∉ fps (xs.take i) := by
        rcases hin with ⟨a, ha, e⟩ | hm
        · have := (hl a ha).2.1
          rw [e]; intro hm; exact this (by rw [hfc]; simp [hm])
        · rw [hfc] at hnd
          intro hm'
          exact (List.nodup_append.1 hnd).2.2 _ hm' _ (by simp [hm]) rfl
      have hndp : ad.block ∉ fps (xs.drop (i + 1)) := by
        rcases hin with ⟨a, ha, e⟩ | hm
        · have := (hl a ha).2.1
          rw [e]; intro hm; exact this (by rw [hfc]; simp [hm])
        · rw [hfc] at hnd
          intro hm'
          exact (List.nodup_append.1 (List.nodup_append.1 hnd).2.1).2.2 _ hm _ hm' rfl
      obtain ⟨ok1, _, ok3⟩ := (okL_cut hzi).1 hx
      simp only [csetN, hzi]
      refine ⟨?_, ?_, ?_, ?_⟩
      · simp only [Ok]
        rw [okL_set hzi]
        exact ⟨H.okL hz hnt ok1, iok, H.okL hz hndp ok3⟩
      · simp only [flat]
        rw [flats_set hzi, hseg]
        simp [ilen]
      · intro a ha
        subst ha
        obtain ⟨h1, h2, h3⟩ := hl a rfl
        obtain ⟨icells, irange⟩ := iat (a.add (flats (xs.take i)).length) rfl
        simp only [flat] at h3 ⊢
        have hcut := h3
        rw [hseg, cellsAt_append h1, cellsAt_append (add_spot h1 _)] at hcut
        have hrange : ad.block = a.block → a.off + (flats (xs.take i)).length ≤ ad.off ∧ ad.off + n ≤ a.off + (flats (xs.take i)).length + (flat z).length := fun e => by
          have := irange (by rw [add_block]; exact e)
          rw [add_eq h1] at this
          exact this
        refine ⟨?_, fun e => ?_⟩
        · rw [flats_set hzi, cellsAt_append h1, cellsAt_append (add_spot h1 _), ilen]
          refine ⟨H.cellsAt h1 hcut.1 fun e => .inl (hrange e.symm).1, icells, H.cellsAt (add_spot (add_spot h1 _) _) hcut.2.2 fun e => .inr ?_⟩
          rw [add_add h1, add_eq h1] at e ⊢
          have := (hrange e.symm).2
          simp only; omega
        · have := hrange e
          rw [hseg]
          simp only [List.length_append]
          omega
      · rcases hin with ⟨a, ha, e⟩ | hm
        · exact .inr ⟨a, ha, e⟩
        · refine .inl ?_
          simp only [fp]
          rw [hfc]; simp [hm]
end Go.Bv

/-! Frames of by-value slots: references into them, what keeps them. -/
namespace Go.Bv
open Go Go.RowKit
set_option linter.unusedSimpArgs false
set_option linter.unusedVariables false

mutual
/-- No reference, pointer into a slot, box or tuple inside. -/
def Pl : CV → Prop
  | .lst _ _ _ _ xs => PlL xs
  | .agg xs => PlL xs
  | .fn _ xs => PlL xs
  | .ip _ x => Pl x
  | .at _ _ _ => False
  | .ref _ _ _ _ _ => False
  | .box _ _ _ => False
  | .tup _ => False
  | .undef v => v.oneCell' = true
  | _ => True
def PlL : List CV → Prop
  | [] => True
  | x :: xs => Pl x ∧ PlL xs
end
theorem plL_iff (xs : List CV) : PlL xs ↔ ∀ x ∈ xs, Pl x := by induction xs <;> simp [PlL, *]
mutual
def plA : AV → Bool
  | .lst _ _ xs => plAs xs
  | .agg xs => plAs xs
  | .fn _ xs => plAs xs
  | .ip x => plA x
  | .at _ _ => false
  | .ref _ _ _ _ => false
  | .box _ => false
  | .tup _ => false
  | .undef => false
  | _ => true
def plAs : List AV → Bool
  | [] => true
  | x :: xs => plA x && plAs xs
end
mutual
theorem pl_er : ∀ x : CV, plA (er x) = true → Pl x
  | .lst _ _ _ _ xs => by simp only [er, plA, Pl]; exact plL_er xs
  | .agg xs => by simp only [er, plA, Pl]; exact plL_er xs
  | .fn _ xs => by simp only [er, plA, Pl]; exact plL_er xs
  | .ip _ x => by simp only [er, plA, Pl]; exact pl_er x
  | .undef _ | .bool _ | .int _ _ | .str _ | .at _ _ _ | .ref _ _ _ _ _ | .box _ _ _ | .tup _ => by simp [er, plA, Pl]
theorem plL_er : ∀ xs : List CV, plAs (ers xs) = true → PlL xs
  | [] => by simp [ers, plAs, PlL]
  | x :: xs => by
    simp only [ers, plAs, PlL, Bool.and_eq_true]
    exact fun h => ⟨pl_er x h.1, plL_er xs h.2⟩
end
mutual
theorem Pl.one : ∀ x : CV, Pl x → ∀ v ∈ flat x, v.oneCell' = true
  | .agg xs, h => by simp only [Pl] at h; simp only [flat]; exact PlL.one xs h
  | .undef u, h => by simp only [Pl] at h; simp only [flat, List.mem_singleton]; rintro v rfl; exact h
  | .lst _ _ _ _ _, _ | .fn _ _, _ | .ip _ _, _ | .bool _, _ | .int _ _, _ | .str _, _ => by simp [flat, Value.oneCell']
  | .at _ _ _, h | .ref _ _ _ _ _, h | .box _ _ _, h | .tup _, h => by simp [Pl] at h
theorem PlL.one : ∀ xs : List CV, PlL xs → ∀ v ∈ flats xs, v.oneCell' = true
  | [], _ => by simp [flats]
  | x :: xs, h => by
    simp only [PlL] at h
    simp only [flats, List.mem_append]
    rintro v (hv | hv)
    · exact Pl.one x h.1 v hv
    · exact PlL.one xs h.2 v hv
end

def rootC : CV → CV × Option Addr
  | .box b _ x => (x, some ⟨b, 0, none⟩)
  | x => (x, none)
def rootA : AV → AV
  | .box x => x
  | x => x
theorem er_root (x : CV) : er (rootC x).1 = rootA (er x) := by cases x <;> simp [rootC, rootA, er]
def cget (Sc : List CV) (r : Nat) (p : List Nat) : Option (CV × Option Addr) := match Sc[r]? with | some x => cgetN (rootC x).1 (rootC x).2 p | none => none
def aget (S : List AV) (r : Nat) (p : List Nat) : Option AV := match S[r]? with | some x => agetN (rootA x) p | none => none
def csetR (x : CV) (p : List Nat) (y : CV) : CV := match x with | .box b ty z => .box b ty (csetN z p y) | x => csetN x p y
def asetR (x : AV) (p : List Nat) (y : AV) : AV := match x with | .box z => .box (asetN z p y) | x => asetN x p y
def cset (Sc : List CV) (r : Nat) (p : List Nat) (y : CV) : List CV := match Sc[r]? with | some x => Sc.set r (csetR x p y) | none => Sc
def aset (S : List AV) (r : Nat) (p : List Nat) (y : AV) : List AV := match S[r]? with | some x => S.set r (asetR x p y) | none => S

theorem er_cget {Sc : List CV} {r : Nat} {p : List Nat} {y : CV} {l : Option Addr} (h : cget Sc r p = some (y, l)) : aget (ers Sc) r p = some (er y) := by
  unfold cget at h
  unfold aget
  rw [ers_eq, List.getElem?_map]
  cases hx : Sc[r]? with
  | none => simp [hx] at h
  | some x => simp only [hx] at h; simp only [Option.map_some, ← er_root]; exact er_get p _ _ y l h
theorem er_cget' {Sc : List CV} {r : Nat} {p : List Nat} {y : AV} (h : aget (ers Sc) r p = some y) : ∃ z l, cget Sc r p = some (z, l) ∧ er z = y := by
  unfold aget at h
  unfold cget
  rw [ers_eq, List.getElem?_map] at h
  cases hx : Sc[r]? with
  | none => simp [hx] at h
  | some x => simp only [hx, Option.map_some, ← er_root] at h; simp only; exact er_get' p _ _ y h
theorem er_csetR (x : CV) (p : List Nat) (y : CV) : er (csetR x p y) = asetR (er x) p (er y) := by
  cases x <;> simp [csetR, asetR, er_set, er]
theorem er_cset (Sc : List CV) (r : Nat) (p : List Nat) (y : CV) : ers (cset Sc r p y) = aset (ers Sc) r p (er y) := by
  unfold cset aset
  rw [ers_eq, ers_eq, List.getElem?_map]
  cases hx : Sc[r]? with
  | none => simp
  | some x => simp [List.map_set, er_csetR]

/-! ### a set and another path -/
theorem isPrefixOf_cons (i j : Nat) (p q : List Nat) : (i :: p).isPrefixOf (j :: q) = (i == j && p.isPrefixOf q) := by simp [List.isPrefixOf]

/-- The same head: a list behind the same header, as long. -/
def SameHdr : CV → CV → Prop
  | .lst o s A c xs, z => ∃ ys, z = .lst o s A c ys ∧ ys.length = xs.length
  | _, _ => True

theorem len_set : ∀ (p : List Nat) (x : CV) (l : Option Addr) (y : CV) (l' : Option Addr) (y' : CV), cgetN x l p = some (y, l') → (flat y').length = (flat y).length → (flat (csetN x p y')).length = (flat x).length
  | [], x, l, y, l', y', h, hl => by simp only [cgetN, Option.some.injEq, Prod.mk.injEq] at h; simp [csetN, hl, h.1]
  | i :: p, x, l, y, l', y', h, hl => by
    cases x <;> simp only [cgetN] at h <;> try (cases h; done)
    · rename_i o s A c xs
      split at h
      · cases h
      · split at h
        · rename_i z hz; simp [csetN, hz, flat]
        · cases h
    · rename_i xs
      split at h
      · rename_i z hz
        simp only [csetN, hz, flat]
        rw [flats_set hz, flats_cut hz]
        simp [len_set p z _ y l' y' h hl]
      · cases h

theorem get_set : ∀ (p q : List Nat) (x : CV) (l : Option Addr) (y : CV) (l' : Option Addr) (y' z : CV) (lz : Option Addr), cgetN x l p = some (y, l') → (flat y').length = (flat y).length →
    cgetN x l q = some (z, lz) → (p.isPrefixOf q = true → p = q) → ∃ z', cgetN (csetN x p y') l q = some (z', lz) ∧ (p = q → z' = y') ∧ (p ≠ q → SameHdr z z')
  | [], q, x, l, y, l', y', z, lz, h, hl, hq, hpq => by
    have : q = [] := (hpq (by simp [List.isPrefixOf])).symm
    subst this
    simp only [cgetN, Option.some.injEq, Prod.mk.injEq] at hq
    exact ⟨y', by simp [csetN, cgetN, hq.2], fun _ => rfl, fun h => absurd rfl h⟩
  | i :: p, [], x, l, y, l', y', z, lz, h, hl, hq, hpq => by
    simp only [cgetN, Option.some.injEq, Prod.mk.injEq] at hq
    obtain ⟨rfl, rfl⟩ := hq
    refine ⟨_, rfl, fun h => by simp at h, fun _ => ?_⟩
    cases x <;> simp only [cgetN] at h <;> try (cases h; done)
    · rename_i o s A c xs
      split at h
      · cases h
      · split at h
        · rename_i u hu; simp only [csetN, hu]; exact ⟨_, rfl, by simp⟩
        · cases h
    · simp [SameHdr]
  | i :: p, j :: q, x, l, y, l', y', z, lz, h, hl, hq, hpq => by
    have hpq' : i = j → p.isPrefixOf q = true → p = q := fun e h' => by
      have := hpq (by rw [isPrefixOf_cons]; simp [e, h'])
      simp only [List.cons.injEq] at this; exact this.2
    cases x <;> simp only [cgetN] at h hq <;> try (cases h; done)
    · rename_i o s A c xs
      split at h
      · cases h
      rename_i ho
      rw [if_neg ho] at hq
      split at h
      case h_2 => cases h
      rename_i u hu
      split at hq
      case h_2 => cases hq
      rename_i v hv
      simp only [csetN, hu, cgetN, if_neg ho]
      by_cases e : i = j
      · subst e
        rw [hu] at hv; cases hv
        obtain ⟨z', h1, h2, h3⟩ := get_set p q u _ y l' y' z lz h hl hq (hpq' rfl)
        rw [List.getElem?_set_self (List.getElem?_eq_some_iff.1 hu).1]
        exact ⟨z', h1, fun e => h2 (by simpa using e), fun e => h3 (by simpa using e)⟩
      · rw [List.getElem?_set_ne e, hv]
        refine ⟨z, hq, fun e' => absurd (List.cons.inj e').1 e, fun _ => ?_⟩
        cases z <;> simp [SameHdr]
    · rename_i xs
      split at h
      case h_2 => cases h
      rename_i u hu
      split at hq
      case h_2 => cases hq
      rename_i v hv
      simp only [csetN, hu, cgetN]
      by_cases e : i = j
      · subst e
        rw [hu] at hv; cases hv
        obtain ⟨z', h1, h2, h3⟩ := get_set p q u _ y l' y' z lz h hl hq (hpq' rfl)
        rw [List.getElem?_set_self (List.getElem?_eq_some_iff.1 hu).1, List.take_set_of_le (Nat.le_refl _)]
        exact ⟨z', h1, fun e => h2 (by simpa using e), fun e => h3 (by simpa using e)⟩
      · rw [List.getElem?_set_ne e, hv]
        have hlen : (flats ((xs.set i (csetN u p y')).take j)).length = (flats (xs.take j)).length := by
          rcases Nat.lt_or_ge i j with hij | hij
          · rw [List.take_set]
            have hu' : (xs.take j)[i]? = some u := by rw [List.getElem?_take_of_lt hij]; exact hu
            rw [flats_set hu', flats_cut hu']
            simp [len_set p u _ y l' y' h hl]
          · rw [List.take_set_of_le hij]
        rw [hlen]
        refine ⟨z, hq, fun e' => absurd (List.cons.inj e').1 e, fun _ => ?_⟩
        cases z <;> simp [SameHdr]
end Go.Bv

/-! References: what they lean on, and how they keep when a place is set. -/
namespace Go.Bv
open Go Go.RowKit
set_option linter.unusedSimpArgs false
set_option linter.unusedVariables false

def RefHdr (s : Nat) (A : Option Addr) (c lo n : Nat) (v : Value) : Prop :=
  ∃ A' c', v = .slice A' n c' ∧ lo ≤ c ∧ c' = c - lo ∧ n ≤ c' ∧ (lo = 0 → A' = A) ∧ (lo < c → A' = A.map (·.add (lo * s)))
mutual
def RefOk (Sc : List CV) : CV → Prop
  | .at r p a => ∃ x y, Sc[r]? = some x ∧ Pl (rootC x).1 ∧ cgetN (rootC x).1 (rootC x).2 p = some (y, some a)
  | .ref r p lo n v => ∃ x s A c xs l, Sc[r]? = some x ∧ Pl (rootC x).1 ∧ cgetN (rootC x).1 (rootC x).2 p = some (.lst true s A c xs, l) ∧ lo + n ≤ xs.length ∧ RefHdr s A c lo n v
  | .agg xs => RefOkL Sc xs
  | .tup xs => RefOkL Sc xs
  | .fn _ xs => RefOkL Sc xs
  | .ip _ x => RefOk Sc x
  | _ => True
def RefOkL (Sc : List CV) : List CV → Prop
  | [] => True
  | x :: xs => RefOk Sc x ∧ RefOkL Sc xs
end
theorem refOkL_iff {Sc : List CV} (xs : List CV) : RefOkL Sc xs ↔ ∀ x ∈ xs, RefOk Sc x := by induction xs <;> simp [RefOkL, *]
mutual
/-- References stand only where they may. -/
def Wf : CV → Prop
  | .lst _ _ _ _ xs => PlL xs
  | .box _ _ x => Pl x
  | .ip _ x => Wf x
  | .agg xs => WfL xs
  | .tup xs => WfL xs
  | .fn _ xs => WfL xs
  | _ => True
def WfL : List CV → Prop
  | [] => True
  | x :: xs => Wf x ∧ WfL xs
end
theorem wfL_iff (xs : List CV) : WfL xs ↔ ∀ x ∈ xs, Wf x := by induction xs <;> simp [WfL, *]
mutual
theorem Pl.wf : ∀ x : CV, Pl x → Wf x
  | .lst _ _ _ _ xs, h => by simpa only [Pl, Wf] using h
  | .agg xs, h => by simp only [Pl, Wf] at h ⊢; exact PlL.wf xs h
  | .fn _ xs, h => by simp only [Pl, Wf] at h ⊢; exact PlL.wf xs h
  | .ip _ x, h => by simp only [Pl, Wf] at h ⊢; exact Pl.wf x h
  | .undef _, _ | .bool _, _ | .int _ _, _ | .str _, _ => by simp [Wf]
  | .at _ _ _, h | .ref _ _ _ _ _, h | .box _ _ _, h | .tup _, h => by simp [Pl] at h
theorem PlL.wf : ∀ xs : List CV, PlL xs → WfL xs
  | [], _ => by simp [WfL]
  | x :: xs, h => by simp only [PlL, WfL] at h ⊢; exact ⟨Pl.wf x h.1, PlL.wf xs h.2⟩
end
mutual
theorem Pl.refOk {Sc : List CV} : ∀ x : CV, Pl x → RefOk Sc x
  | .lst _ _ _ _ xs, h => by simp [RefOk]
  | .agg xs, h => by simp only [Pl, RefOk] at h ⊢; exact PlL.refOk xs h
  | .fn _ xs, h => by simp only [Pl, RefOk] at h ⊢; exact PlL.refOk xs h
  | .ip _ x, h => by simp only [Pl, RefOk] at h ⊢; exact Pl.refOk x h
  | .undef _, _ | .bool _, _ | .int _ _, _ | .str _, _ => by simp [RefOk]
  | .at _ _ _, h | .ref _ _ _ _ _, h | .box _ _ _, h | .tup _, h => by simp [Pl] at h
theorem PlL.refOk {Sc : List CV} : ∀ xs : List CV, PlL xs → RefOkL Sc xs
  | [], _ => by simp [RefOkL]
  | x :: xs, h => by simp only [PlL, RefOkL] at h ⊢; exact ⟨Pl.refOk x h.1, PlL.refOk xs h.2⟩
end

mutual
/-- Does it lean on what lies at, or below, the path? -/
def hit (r : Nat) (p : List Nat) : CV → Bool
  | .at r' q _ => r == r' && p.isPrefixOf q && p != q
  | .ref r' q _ _ _ => r == r' && p.isPrefixOf q
  | .agg xs => hits r p xs
  | .tup xs => hits r p xs
  | .fn _ xs => hits r p xs
  | .ip _ x => hit r p x
  | _ => false
def hits (r : Nat) (p : List Nat) : List CV → Bool
  | [] => false
  | x :: xs => hit r p x || hits r p xs
end
mutual
def hitA (r : Nat) (p : List Nat) : AV → Bool
  | .at r' q => r == r' && p.isPrefixOf q && p != q
  | .ref r' q _ _ => r == r' && p.isPrefixOf q
  | .agg xs => hitAs r p xs
  | .tup xs => hitAs r p xs
  | .fn _ xs => hitAs r p xs
  | .ip x => hitA r p x
  | _ => false
def hitAs (r : Nat) (p : List Nat) : List AV → Bool
  | [] => false
  | x :: xs => hitA r p x || hitAs r p xs
end
mutual
theorem hit_er (r : Nat) (p : List Nat) : ∀ x : CV, hitA r p (er x) = hit r p x
  | .agg xs => by simp only [er, hitA, hit]; exact hits_er r p xs
  | .tup xs => by simp only [er, hitA, hit]; exact hits_er r p xs
  | .fn _ xs => by simp only [er, hitA, hit]; exact hits_er r p xs
  | .ip _ x => by simp only [er, hitA, hit]; exact hit_er r p x
  | .undef _ | .bool _ | .int _ _ | .str _ | .lst _ _ _ _ _ | .at _ _ _ | .ref _ _ _ _ _ | .box _ _ _ => by simp [er, hitA, hit]
theorem hits_er (r : Nat) (p : List Nat) : ∀ xs : List CV, hitAs r p (ers xs) = hits r p xs
  | [] => by simp [ers, hitAs, hits]
  | x :: xs => by simp only [ers, hitAs, hits, hit_er r p x, hits_er r p xs]
end
mutual
theorem Pl.hit (r : Nat) (p : List Nat) : ∀ x : CV, Pl x → hit r p x = false
  | .agg xs, h => by simp only [Pl, Bv.hit] at h ⊢; exact PlL.hit r p xs h
  | .fn _ xs, h => by simp only [Pl, Bv.hit] at h ⊢; exact PlL.hit r p xs h
  | .ip _ x, h => by simp only [Pl, Bv.hit] at h ⊢; exact Pl.hit r p x h
  | .undef _, _ | .bool _, _ | .int _ _, _ | .str _, _ | .lst _ _ _ _ _, _ => by simp [Bv.hit]
  | .at _ _ _, h | .ref _ _ _ _ _, h | .box _ _ _, h | .tup _, h => by simp [Pl] at h
theorem PlL.hit (r : Nat) (p : List Nat) : ∀ xs : List CV, PlL xs → hits r p xs = false
  | [], _ => by simp [hits]
  | x :: xs, h => by simp only [PlL, hits] at h ⊢; simp [Pl.hit r p x h.1, PlL.hit r p xs h.2]
end
theorem root_hit {r : Nat} {p : List Nat} {x : CV} (h : Pl (rootC x).1) : hit r p x = false := by
  cases x <;> first | (simp [Bv.hit]; done) | exact Pl.hit r p _ h

mutual
theorem Pl.set : ∀ (p : List Nat) (x y : CV), Pl x → Pl y → Pl (csetN x p y)
  | [], x, y, _, hy => by simpa [csetN] using hy
  | i :: p, x, y, hx, hy => by
    cases x <;> simp only [csetN] <;> try exact hx
    · rename_i o s A c xs
      simp only [Pl] at hx
      cases hz : xs[i]? with
      | none => simpa only [Pl] using hx
      | some z => simp only [Pl]; rw [plL_iff] at hx ⊢; intro u hu; rcases List.mem_or_eq_of_mem_set hu with hu | rfl
                  · exact hx u hu
                  · exact Pl.set p z y (hx z (List.mem_of_getElem? hz)) hy
    · rename_i xs
      simp only [Pl] at hx
      cases hz : xs[i]? with
      | none => simpa only [Pl] using hx
      | some z => simp only [Pl]; rw [plL_iff] at hx ⊢; intro u hu; rcases List.mem_or_eq_of_mem_set hu with hu | rfl
                  · exact hx u hu
                  · exact Pl.set p z y (hx z (List.mem_of_getElem? hz)) hy
end
theorem Pl.get : ∀ (p : List Nat) (x : CV) (l : Option Addr) (y : CV) (l' : Option Addr), cgetN x l p = some (y, l') → Pl x → Pl y
  | [], x, l, y, l', h, hx => by simp only [cgetN, Option.some.injEq, Prod.mk.injEq] at h; exact h.1 ▸ hx
  | i :: p, x, l, y, l', h, hx => by
    cases x <;> simp only [cgetN] at h <;> try (cases h; done)
    · split at h
      · cases h
      · split at h
        · rename_i z hz; simp only [Pl] at hx; rw [plL_iff] at hx; exact Pl.get p z _ y l' h (hx z (List.mem_of_getElem? hz))
        · cases h
    · split at h
      · rename_i z hz; simp only [Pl] at hx; rw [plL_iff] at hx; exact Pl.get p z _ y l' h (hx z (List.mem_of_getElem? hz))
      · cases h

def cclr (r : Nat) (p : List Nat) (Sc : List CV) : List CV := Sc.map fun x => if hit r p x then .undef (val x) else x
def aclr (r : Nat) (p : List Nat) (S : List AV) : List AV := S.map fun x => if hitA r p x then .undef else x
theorem er_cclr (r : Nat) (p : List Nat) (Sc : List CV) : ers (cclr r p Sc) = aclr r p (ers Sc) := by
  simp only [cclr, aclr, ers_eq, List.map_map]
  apply List.map_congr_left
  intro x _
  simp only [Function.comp, hit_er]
  split <;> simp [er]
theorem val_undef (v : Value) : val (.undef v) = v := by simp [val, val1, flat]

/-- Set at a place; what leaned on what lay there is gone. -/
def csetc (Sc : List CV) (r : Nat) (p : List Nat) (y : CV) : List CV := cclr r p (cset Sc r p y)
def asetc (S : List AV) (r : Nat) (p : List Nat) (y : AV) : List AV := aclr r p (aset S r p y)
theorem er_csetc (Sc : List CV) (r : Nat) (p : List Nat) (y : CV) : ers (csetc Sc r p y) = asetc (ers Sc) r p (er y) := by simp [csetc, asetc, er_cclr, er_cset]

theorem rootC_csetR {x : CV} {p : List Nat} {y : CV} (hx : Pl (rootC x).1) (hy : Pl y) : rootC (csetR x p y) = (csetN (rootC x).1 p y, (rootC x).2) := by
  cases x <;> simp only [csetR, rootC] at hx ⊢ <;> try (simp [Pl] at hx; done)
  all_goals
    have h1 := Pl.set p _ y hx hy
    revert h1
    generalize csetN _ p y = z
    intro h1
    cases z <;> simp [rootC, Pl] at h1 ⊢

theorem cset_slot {Sc : List CV} {r : Nat} {p : List Nat} {y : CV} {x : CV} (hx : Sc[r]? = some x) (hp : Pl (rootC x).1) (hy : Pl y) (t : Nat) :
    (csetc Sc r p y)[t]? = if t = r then some (csetR x p y) else (Sc[t]?).map fun x => if hit r p x then .undef (val x) else x := by
  unfold csetc cclr cset
  simp only [hx, List.getElem?_map]
  by_cases e : t = r
  · subst e
    rw [List.getElem?_set_self (List.getElem?_eq_some_iff.1 hx).1, if_pos rfl]
    simp only [Option.map_some]
    rw [root_hit (by rw [rootC_csetR hp hy]; exact Pl.set p _ y hp hy)]
    simp
  · rw [List.getElem?_set_ne (Ne.symm e), if_neg e]

mutual
theorem RefOk.set {Sc : List CV} {r : Nat} {p : List Nat} {y : CV} {x0 : CV} {y0 : CV} {l0 : Option Addr} (hx : Sc[r]? = some x0) (hp : Pl (rootC x0).1) (hy : Pl y)
    (hg : cgetN (rootC x0).1 (rootC x0).2 p = some (y0, l0)) (hl : (flat y).length = (flat y0).length) : ∀ x : CV, hit r p x = false → RefOk Sc x → RefOk (csetc Sc r p y) x
  | .at r' q a, hh, h => by
    simp only [Bv.hit] at hh
    simp only [RefOk] at h ⊢
    obtain ⟨x1, y1, h1, h2, h3⟩ := h
    by_cases e : r' = r
    · subst e
      rw [hx] at h1; cases h1
      have hpq : p.isPrefixOf q = true → p = q := fun h' => by simp [h'] at hh; exact hh
      obtain ⟨z', g1, g2, g3⟩ := get_set p q _ _ y0 l0 y y1 _ hg hl h3 hpq
      refine ⟨csetR x0 p y, z', by rw [cset_slot hx hp hy, if_pos rfl], ?_, ?_⟩
      · rw [rootC_csetR hp hy]; exact Pl.set p _ y hp hy
      · rw [rootC_csetR hp hy]; exact g1
    · refine ⟨x1, y1, ?_, h2, h3⟩
      rw [cset_slot hx hp hy, if_neg e, h1]
      simp [root_hit h2]
  | .ref r' q lo n v, hh, h => by
    simp only [Bv.hit] at hh
    simp only [RefOk] at h ⊢
    obtain ⟨x1, s, A, c, xs, l, h1, h2, h3, h4, h5⟩ := h
    by_cases e : r' = r
    · subst e
      rw [hx] at h1; cases h1
      have hne : p.isPrefixOf q = false := by simpa using hh
      obtain ⟨z', g1, g2, g3⟩ := get_set p q _ _ y0 l0 y _ _ hg hl h3 (fun h' => by rw [hne] at h'; cases h')
      have hpq : p ≠ q := by
        intro e
        rw [← e, List.isPrefixOf_iff_prefix.2 (List.prefix_refl p)] at hne
        cases hne
      obtain ⟨ys, rfl, hlen⟩ := g3 hpq
      refine ⟨csetR x0 p y, s, A, c, ys, l, by rw [cset_slot hx hp hy, if_pos rfl], ?_, ?_, by omega, h5⟩
      · rw [rootC_csetR hp hy]; exact Pl.set p _ y hp hy
      · rw [rootC_csetR hp hy]; exact g1
    · refine ⟨x1, s, A, c, xs, l, ?_, h2, h3, h4, h5⟩
      rw [cset_slot hx hp hy, if_neg e, h1]
      simp [root_hit h2]
  | .agg xs, hh, h => by simp only [Bv.hit, RefOk] at hh h ⊢; exact RefOkL.set hx hp hy hg hl xs hh h
  | .tup xs, hh, h => by simp only [Bv.hit, RefOk] at hh h ⊢; exact RefOkL.set hx hp hy hg hl xs hh h
  | .fn _ xs, hh, h => by simp only [Bv.hit, RefOk] at hh h ⊢; exact RefOkL.set hx hp hy hg hl xs hh h
  | .ip _ x, hh, h => by simp only [Bv.hit, RefOk] at hh h ⊢; exact RefOk.set hx hp hy hg hl x hh h
  | .undef _, _, _ | .bool _, _, _ | .int _ _, _, _ | .str _, _, _ | .lst _ _ _ _ _, _, _ | .box _ _ _, _, _ => by simp [RefOk]
theorem RefOkL.set {Sc : List CV} {r : Nat} {p : List Nat} {y : CV} {x0 : CV} {y0 : CV} {l0 : Option Addr} (hx : Sc[r]? = some x0) (hp : Pl (rootC x0).1) (hy : Pl y)
    (hg : cgetN (rootC x0).1 (rootC x0).2 p = some (y0, l0)) (hl : (flat y).length = (flat y0).length) : ∀ xs : List CV, hits r p xs = false → RefOkL Sc xs → RefOkL (csetc Sc r p y) xs
  | [], _, _ => by simp [RefOkL]
  | x :: xs, hh, h => by
    simp only [hits, Bool.or_eq_false_iff] at hh
    simp only [RefOkL] at h ⊢
    exact ⟨RefOk.set hx hp hy hg hl x hh.1 h.1, RefOkL.set hx hp hy hg hl xs hh.2 h.2⟩
end
end Go.Bv

/-! Good: a frame of by-value slots stands for a real frame and a world; put and take. -/
namespace Go.Bv
open Go Go.RowKit
set_option linter.unusedSimpArgs false
set_option linter.unusedVariables false

/-- What stands beside the frame: a plain value, a box or a tuple of plain ones. -/
def NR : CV → Prop
  | .box _ _ x => Pl x
  | .tup xs => ∀ x ∈ xs, (∃ v, x = .undef v) ∨ Pl x
  | x => Pl x
theorem Pl.nr {x : CV} (h : Pl x) : NR x := by cases x <;> first | exact h | simp [Pl] at h
theorem NR.wf {x : CV} (h : NR x) : Wf x := by
  cases x
  case box b ty z => exact h
  case tup xs =>
    simp only [NR] at h; simp only [Wf]; rw [wfL_iff]
    intro y hy
    rcases h y hy with ⟨v, rfl⟩ | hp
    · simp [Wf]
    · exact Pl.wf _ hp
  all_goals exact Pl.wf _ h
theorem NR.refOk {x : CV} {Sc : List CV} (h : NR x) : RefOk Sc x := by
  cases x
  case box b ty z => simp [RefOk]
  case tup xs =>
    simp only [NR] at h; simp only [RefOk]; rw [refOkL_iff]
    intro y hy
    rcases h y hy with ⟨v, rfl⟩ | hp
    · simp [RefOk]
    · exact Pl.refOk _ hp
  all_goals exact Pl.refOk _ h

mutual
/-- No list of its own. -/
def NoOwn : CV → Prop
  | .lst o _ _ _ _ => o = false
  | .agg xs => NoOwnL xs
  | .ip _ x => Pl x ∨ NoOwn x
  | .tup _ => False
  | .box _ _ _ => False
  | _ => True
def NoOwnL : List CV → Prop
  | [] => True
  | x :: xs => NoOwn x ∧ NoOwnL xs
end
theorem noOwnL_iff (xs : List CV) : NoOwnL xs ↔ ∀ x ∈ xs, NoOwn x := by induction xs <;> simp [NoOwnL, *]
mutual
theorem NoOwn.fp {w : World} {Z : Nat → Prop} : ∀ x : CV, NoOwn x → Ok w Z x → fp x = []
  | .lst o s A c xs, h, hk => by simp only [NoOwn] at h; simp only [Ok] at hk; simp [Bv.fp, h, hk.2.2.1 h]
  | .agg xs, h, hk => by simp only [NoOwn] at h; simp only [Ok] at hk; simp only [Bv.fp]; exact NoOwnL.fp xs h hk
  | .fn _ xs, h, hk => by simp only [Ok] at hk; simp only [Bv.fp]; exact hk.1
  | .undef _, _, _ | .bool _, _, _ | .int _ _, _, _ | .str _, _, _ | .ip _ _, _, _ | .at _ _ _, _, _ | .ref _ _ _ _ _, _, _ => by simp [Bv.fp]
  | .tup _, h, _ | .box _ _ _, h, _ => by simp [NoOwn] at h
theorem NoOwnL.fp {w : World} {Z : Nat → Prop} : ∀ xs : List CV, NoOwnL xs → OkL w Z xs → fps xs = []
  | [], _, _ => by simp [fps]
  | x :: xs, h, hk => by simp only [NoOwnL] at h; simp only [OkL] at hk; simp [fps, NoOwn.fp x h.1 hk.1, NoOwnL.fp xs h.2 hk.2]
end

/-- What of one list of blocks fits another. -/
structure Fits (l1 l2 : List Nat) : Prop where
  nodup : l2.Nodup → l1.Nodup
  sub : ∀ b ∈ l1, b ∈ l2
theorem Fits.refl (l : List Nat) : Fits l l := ⟨id, fun _ h => h⟩
theorem Fits.trans {a b c : List Nat} (h : Fits a b) (k : Fits b c) : Fits a c := ⟨fun n => h.nodup (k.nodup n), fun x hx => k.sub x (h.sub x hx)⟩
theorem Fits.of_sublist {a b : List Nat} (h : a.Sublist b) : Fits a b := ⟨fun n => h.nodup n, fun _ hx => h.subset hx⟩
theorem Fits.of_perm {a b : List Nat} (h : a.Perm b) : Fits a b := ⟨fun n => h.nodup_iff.2 n, fun x hx => h.mem_iff.1 hx⟩

structure Good (K : Nat → Prop) (w0 : World) (Z : Nat → Prop) (Sc L : List CV) (a : Act) (w : World) : Prop where
  defers : a.defers = []
  size : a.tmps.size = Sc.length
  tmps : ∀ t, t < a.tmps.size → a.tmps[t]? = (Sc[t]?).map val
  ok : OkL w Z (Sc ++ L)
  nodup : (fps (Sc ++ L)).Nodup
  apart : ∀ b ∈ fps (Sc ++ L), ¬ Z b
  lt : ∀ b, (b ∈ fps (Sc ++ L) ∨ Z b) → b < w.heap.size
  refs : ∀ x ∈ Sc, RefOk Sc x
  wf : ∀ x ∈ Sc, Wf x
  sorted : ∀ x ∈ Sc, NR x ∨ NoOwn x
  nr : ∀ x ∈ L, NR x
  kept : ∀ b, K b → b < w0.heap.size ∧ b ∉ fps (Sc ++ L) ∧ w.heap[b]? = w0.heap[b]?
  os : w.os = w0.os
  tape : w.tape = w0.tape
  output : w.output = w0.output
  grew : w0.heap.size ≤ w.heap.size

section
variable {K : Nat → Prop} {w0 : World} {Z : Nat → Prop} {Sc L : List CV} {a : Act} {w : World}

/-- The frame turned, the world and the real frame as they were. -/
theorem Good.turn (h : Good K w0 Z Sc L a w) {Sc' L' : List CV} (hlen : Sc'.length = Sc.length) (hv : ∀ t : Nat, (Sc'[t]?).map val = (Sc[t]?).map val) (hok : OkL w Z (Sc' ++ L'))
    (hf : Fits (fps (Sc' ++ L')) (fps (Sc ++ L))) (hr : ∀ x ∈ Sc', RefOk Sc' x) (hw : ∀ x ∈ Sc', Wf x) (hso : ∀ x ∈ Sc', NR x ∨ NoOwn x) (hn : ∀ x ∈ L', NR x) : Good K w0 Z Sc' L' a w where
  defers := h.defers
  size := by rw [hlen]; exact h.size
  tmps := fun t ht => by rw [hv]; exact h.tmps t ht
  ok := hok
  nodup := hf.nodup h.nodup
  apart := fun b hb => h.apart b (hf.sub b hb)
  lt := fun b hb => h.lt b (hb.imp (hf.sub b) id)
  refs := hr
  wf := hw
  sorted := hso
  nr := hn
  kept := fun b hb => ⟨(h.kept b hb).1, fun hm => (h.kept b hb).2.1 (hf.sub b hm), (h.kept b hb).2.2⟩
  os := h.os
  tape := h.tape
  output := h.output
  grew := h.grew

/-- What stands beside the frame turned alone. -/
theorem Good.beside (h : Good K w0 Z Sc L a w) {L' : List CV} (hok : OkL w Z L') (hf : Fits (fps L') (fps L)) (hn : ∀ x ∈ L', NR x) : Good K w0 Z Sc L' a w := by
  refine h.turn rfl (fun _ => rfl) ((okL_append _ _).2 ⟨((okL_append _ _).1 h.ok).1, hok⟩) ⟨fun hnd => ?_, fun b hb => ?_⟩ h.refs h.wf h.sorted hn
  · rw [fps_append, List.nodup_append] at hnd ⊢
    exact ⟨hnd.1, hf.nodup hnd.2.1, fun x hx y hy => hnd.2.2 x hx y (hf.sub y hy)⟩
  · rw [fps_append, List.mem_append] at hb ⊢
    exact hb.imp id (hf.sub b)

mutual
/-- Does it name slot d? -/
def men (d : Nat) : CV → Bool
  | .at r _ _ => d == r
  | .ref r _ _ _ _ => d == r
  | .agg xs => mens d xs
  | .tup xs => mens d xs
  | .fn _ xs => mens d xs
  | .ip _ x => men d x
  | _ => false
def mens (d : Nat) : List CV → Bool
  | [] => false
  | x :: xs => men d x || mens d xs
end
mutual
def menA (d : Nat) : AV → Bool
  | .at r _ => d == r
  | .ref r _ _ _ => d == r
  | .agg xs => menAs d xs
  | .tup xs => menAs d xs
  | .fn _ xs => menAs d xs
  | .ip x => menA d x
  | _ => false
def menAs (d : Nat) : List AV → Bool
  | [] => false
  | x :: xs => menA d x || menAs d xs
end
mutual
theorem men_er (d : Nat) : ∀ x : CV, menA d (er x) = men d x
  | .agg xs => by simp only [er, menA, men]; exact mens_er d xs
  | .tup xs => by simp only [er, menA, men]; exact mens_er d xs
  | .fn _ xs => by simp only [er, menA, men]; exact mens_er d xs
  | .ip _ x => by simp only [er, menA, men]; exact men_er d x
  | .undef _ | .bool _ | .int _ _ | .str _ | .lst _ _ _ _ _ | .at _ _ _ | .ref _ _ _ _ _ | .box _ _ _ => by simp [er, menA, men]
theorem mens_er (d : Nat) : ∀ xs : List CV, menAs d (ers xs) = mens d xs
  | [] => by simp [ers, menAs, mens]
  | x :: xs => by simp only [ers, menAs, mens, men_er d x, mens_er d xs]
end
mutual
theorem Pl.men (d : Nat) : ∀ x : CV, Pl x → men d x = false
  | .agg xs, h => by simp only [Pl, Bv.men] at h ⊢; exact PlL.men d xs h
  | .fn _ xs, h => by simp only [Pl, Bv.men] at h ⊢; exact PlL.men d xs h
  | .ip _ x, h => by simp only [Pl, Bv.men] at h ⊢; exact Pl.men d x h
  | .undef _, _ | .bool _, _ | .int _ _, _ | .str _, _ | .lst _ _ _ _ _, _ => by simp [Bv.men]
  | .at _ _ _, h | .ref _ _ _ _ _, h | .box _ _ _, h | .tup _, h => by simp [Pl] at h
theorem PlL.men (d : Nat) : ∀ xs : List CV, PlL xs → mens d xs = false
  | [], _ => by simp [mens]
  | x :: xs, h => by simp only [PlL, mens] at h ⊢; simp [Pl.men d x h.1, PlL.men d xs h.2]
end
theorem mens_mem {d : Nat} : ∀ {xs : List CV}, (∀ x ∈ xs, men d x = false) → mens d xs = false
  | [], _ => by simp [mens]
  | x :: xs, h => by simp only [mens, h x List.mem_cons_self, mens_mem fun y hy => h y (List.mem_cons_of_mem _ hy), Bool.or_false]
theorem NR.men {d : Nat} {x : CV} (h : NR x) : men d x = false := by
  cases x
  case box b ty z => simp [Bv.men]
  case tup xs =>
    simp only [NR] at h; simp only [Bv.men]
    refine mens_mem fun y hy => ?_
    rcases h y hy with ⟨v, rfl⟩ | hp
    · simp [Bv.men]
    · exact Pl.men d _ hp
  all_goals exact Pl.men d _ h
theorem root_men {d : Nat} {x : CV} (h : Pl (rootC x).1) : men d x = false := by
  cases x <;> first | (simp [Bv.men]; done) | exact Pl.men d _ h

def rootable : CV → Bool
  | .box _ _ _ | .lst _ _ _ _ _ | .agg _ | .tup _ => true
  | _ => false
def rootableA : AV → Bool
  | .box _ | .lst _ _ _ | .agg _ | .tup _ => true
  | _ => false
theorem rootable_er (x : CV) : rootableA (er x) = rootable x := by cases x <;> simp [er, rootable, rootableA]
def cun (d : Nat) (x : CV) : CV := if men d x then .undef (val x) else x
def aun (d : Nat) (x : AV) : AV := if menA d x then .undef else x
theorem er_cun (d : Nat) (x : CV) : er (cun d x) = aun d (er x) := by simp only [cun, aun, men_er]; split <;> simp [er]
theorem val_cun (d : Nat) (x : CV) : val (cun d x) = val x := by unfold cun; split <;> simp [val_undef]
def cput (dst : Option Nat) (c : CV) (Sc : List CV) : List CV :=
  match dst with
  | none => Sc
  | some d => match Sc[d]? with
    | some x => if rootable x then (Sc.map (cun d)).set d (cun d c) else Sc.set d c
    | none => Sc
def aput (dst : Option Nat) (c : AV) (S : List AV) : List AV :=
  match dst with
  | none => S
  | some d => match S[d]? with
    | some x => if rootableA x then (S.map (aun d)).set d (aun d c) else S.set d c
    | none => S
theorem er_cput (dst : Option Nat) (c : CV) (Sc : List CV) : ers (cput dst c Sc) = aput dst (er c) (ers Sc) := by
  cases dst with
  | none => rfl
  | some d =>
    simp only [cput, aput, ers_eq, List.getElem?_map]
    cases hx : Sc[d]? with
    | none => simp
    | some x =>
      simp only [Option.map_some, rootable_er]
      split
      · simp only [List.map_set, List.map_map, er_cun]
        congr 1
        apply List.map_congr_left
        intro y _; simp [er_cun]
      · simp [List.map_set]

mutual
/-- References hold behind a put, where they don't name the slot. -/
theorem RefOk.put {Sc Sc' : List CV} {d : Nat} (hS : ∀ r x, r ≠ d → Sc[r]? = some x → Pl (rootC x).1 → Sc'[r]? = some x) : ∀ x : CV, men d x = false → RefOk Sc x → RefOk Sc' x
  | .at r p ad, hm, h => by
    simp only [Bv.men] at hm
    simp only [RefOk] at h ⊢
    obtain ⟨x, y, h1, h2, h3⟩ := h
    exact ⟨x, y, hS r x (fun e => by simp [e] at hm) h1 h2, h2, h3⟩
  | .ref r p lo n v, hm, h => by
    simp only [Bv.men] at hm
    simp only [RefOk] at h ⊢
    obtain ⟨x, s, A, c, xs, l, h1, h2, h3⟩ := h
    exact ⟨x, s, A, c, xs, l, hS r x (fun e => by simp [e] at hm) h1 h2, h2, h3⟩
  | .agg xs, hm, h => by simp only [Bv.men, RefOk] at hm h ⊢; exact RefOkL.put hS xs hm h
  | .tup xs, hm, h => by simp only [Bv.men, RefOk] at hm h ⊢; exact RefOkL.put hS xs hm h
  | .fn _ xs, hm, h => by simp only [Bv.men, RefOk] at hm h ⊢; exact RefOkL.put hS xs hm h
  | .ip _ x, hm, h => by simp only [Bv.men, RefOk] at hm h ⊢; exact RefOk.put hS x hm h
  | .undef _, _, _ | .bool _, _, _ | .int _ _, _, _ | .str _, _, _ | .lst _ _ _ _ _, _, _ | .box _ _ _, _, _ => by simp [RefOk]
theorem RefOkL.put {Sc Sc' : List CV} {d : Nat} (hS : ∀ r x, r ≠ d → Sc[r]? = some x → Pl (rootC x).1 → Sc'[r]? = some x) : ∀ xs : List CV, mens d xs = false → RefOkL Sc xs → RefOkL Sc' xs
  | [], _, _ => by simp [RefOkL]
  | x :: xs, hm, h => by
    simp only [mens, Bool.or_eq_false_iff] at hm
    simp only [RefOkL] at h ⊢
    exact ⟨RefOk.put hS x hm.1 h.1, RefOkL.put hS xs hm.2 h.2⟩
end
mutual
/-- A slot that is named is a box, a list or a struct. -/
theorem RefOk.rootable {Sc : List CV} {d : Nat} {x0 : CV} (hd : Sc[d]? = some x0) (hx : rootable x0 = false) : ∀ x : CV, RefOk Sc x → men d x = false
  | .at r p ad, h => by
    simp only [RefOk] at h
    simp only [Bv.men]
    obtain ⟨x, y, h1, h2, h3⟩ := h
    by_cases e : d = r
    · subst e
      rw [hd] at h1; cases h1
      cases x0 <;> simp [Bv.rootable] at hx <;> cases p <;> simp [rootC, cgetN] at h3
    · simpa using e
  | .ref r p lo n v, h => by
    simp only [RefOk] at h
    simp only [Bv.men]
    obtain ⟨x, s, A, c, xs, l, h1, h2, h3, _⟩ := h
    by_cases e : d = r
    · subst e
      rw [hd] at h1; cases h1
      cases x0 <;> simp [Bv.rootable] at hx <;> cases p <;> simp [rootC, cgetN] at h3
    · simpa using e
  | .agg xs, h => by simp only [Bv.men, RefOk] at h ⊢; exact RefOkL.rootable hd hx xs h
  | .tup xs, h => by simp only [Bv.men, RefOk] at h ⊢; exact RefOkL.rootable hd hx xs h
  | .fn _ xs, h => by simp only [Bv.men, RefOk] at h ⊢; exact RefOkL.rootable hd hx xs h
  | .ip _ x, h => by simp only [Bv.men, RefOk] at h ⊢; exact RefOk.rootable hd hx x h
  | .undef _, _ | .bool _, _ | .int _ _, _ | .str _, _ | .lst _ _ _ _ _, _ | .box _ _ _, _ => by simp [Bv.men]
theorem RefOkL.rootable {Sc : List CV} {d : Nat} {x0 : CV} (hd : Sc[d]? = some x0) (hx : rootable x0 = false) : ∀ xs : List CV, RefOkL Sc xs → mens d xs = false
  | [], _ => by simp [mens]
  | x :: xs, h => by simp only [RefOkL] at h; simp [mens, RefOk.rootable hd hx x h.1, RefOkL.rootable hd hx xs h.2]
end
theorem fps_cun (d : Nat) : ∀ xs : List CV, (fps (xs.map (cun d))).Sublist (fps xs)
  | [] => by simp [fps]
  | x :: xs => by
    simp only [List.map_cons, fps]
    refine List.Sublist.append ?_ (fps_cun d xs)
    unfold cun
    split
    · simp [fp]
    · exact List.Sublist.refl _
theorem okL_cun (d : Nat) : ∀ xs : List CV, OkL w Z xs → OkL w Z (xs.map (cun d))
  | [], _ => by simp [OkL]
  | x :: xs, h => by
    simp only [OkL] at h
    simp only [List.map_cons, OkL]
    refine ⟨?_, okL_cun d xs h.2⟩
    unfold cun
    split
    · simp [Ok]
    · exact h.1

/-- A value that owns no more than what stands beside the frame goes into a slot in its stead. -/
theorem Good.putG {u c : CV} (h : Good K w0 Z Sc (u :: L) a w) (dst : Option Nat) (hc : Ok w Z c) (hfu : Fits (fp c) (fp u)) (hr : RefOk Sc c) (hwf : Wf c) (hso : NR c ∨ NoOwn c) :
    Good K w0 Z (cput dst c Sc) L (a.put dst (val c)) w := by
  have hL : Good K w0 Z Sc L a w := h.beside (((okL_append _ _).1 h.ok).2.2) (Fits.of_sublist (by simp only [fps]; exact List.sublist_append_right _ _)) (fun x hx => h.nr x (by simp [hx]))
  cases dst with
  | none => exact hL
  | some d =>
    cases hx : Sc[d]? with
    | none =>
      simp only [cput, hx]
      have hd : a.tmps.size ≤ d := by
        have := (List.getElem?_eq_none_iff.1 hx); have := h.size; omega
      have : a.put (some d) (val c) = a := by simp [Act.put, Array.setIfInBounds, show ¬ d < a.tmps.size by omega]
      rw [this]; exact hL
    | some x =>
      simp only [cput, hx]
      have hdl := (List.getElem?_eq_some_iff.1 hx).1
      -- one list for both cases
      have key : ∀ (T : List CV) (c' : CV), T.length = Sc.length → (∀ t : Nat, (T[t]?).map val = (Sc[t]?).map val) → OkL w Z T → (fps T).Sublist (fps Sc) →
          (∀ y ∈ T, men d y = false) → (∀ y ∈ T, RefOk Sc y) → (∀ y ∈ T, Wf y) → (∀ y ∈ T, NR y ∨ NoOwn y) → (∀ r y, r ≠ d → Sc[r]? = some y → Pl (rootC y).1 → T[r]? = some y) →
          val c' = val c → Ok w Z c' → Fits (fp c') (fp u) → RefOk Sc c' → Wf c' → (NR c' ∨ NoOwn c') → men d c' = false → Good K w0 Z (T.set d c') L (a.put (some d) (val c)) w := by
        intro T c' hlen hv hokT hsub hmen hrT hwT hsT hST hvc hokc hfc hrc hwc hsc hmc
        have hdT : d < T.length := by omega
        obtain ⟨y, hy⟩ : ∃ y, T[d]? = some y := ⟨T[d], List.getElem?_eq_getElem hdT⟩
        have hset := set_at c' hy
        have hperm : Fits (fps (T.set d c' ++ L)) (fps (Sc ++ u :: L)) := by
          have h1 : fps (T.set d c' ++ L) = fps (T.take d) ++ (fp c' ++ (fps (T.drop (d + 1)) ++ fps L)) := by rw [hset]; simp [fps_append, fps]
          have h2 : fps (Sc ++ u :: L) = fps Sc ++ (fp u ++ fps L) := by simp [fps_append, fps]
          rw [h1, h2]
          refine Fits.trans (b := (fps (T.take d) ++ fps (T.drop (d + 1))) ++ (fp c' ++ fps L)) (Fits.of_perm ?_) ?_
          · rw [List.append_assoc]
            refine List.Perm.append_left _ ?_
            rw [← List.append_assoc, ← List.append_assoc]
            exact List.Perm.append_right _ List.perm_append_comm
          have hs1 : (fps (T.take d) ++ fps (T.drop (d + 1))).Sublist (fps Sc) := by
            refine List.Sublist.trans ?_ hsub
            rw [fps_cut hy]
            exact List.Sublist.append (List.Sublist.refl _) (List.sublist_append_right _ _)
          refine Fits.trans (b := fps Sc ++ (fp c' ++ fps L)) (Fits.of_sublist (List.Sublist.append hs1 (List.Sublist.refl _))) ⟨fun hnd => ?_, fun b hb => ?_⟩
          · rw [List.nodup_append, List.nodup_append] at hnd ⊢
            obtain ⟨n1, ⟨n2, n3, n4⟩, n5⟩ := hnd
            exact ⟨n1, ⟨hfc.nodup n2, n3, fun a ha b hb => n4 a (hfc.sub a ha) b hb⟩, fun a ha b hb => n5 a ha b (by
              rcases List.mem_append.1 hb with hb | hb
              · exact List.mem_append.2 (.inl (hfc.sub b hb))
              · exact List.mem_append.2 (.inr hb))⟩
          · simp only [List.mem_append] at hb ⊢
            rcases hb with hb | hb | hb
            · exact .inl hb
            · exact .inr (.inl (hfc.sub b hb))
            · exact .inr (.inr hb)
        have hokA := (okL_append Sc (u :: L)).1 h.ok
        refine { defers := ?_, size := ?_, tmps := ?_, ok := ?_, nodup := hperm.nodup h.nodup, apart := fun b hb => h.apart b (hperm.sub b hb),
                 lt := fun b hb => h.lt b (hb.imp (hperm.sub b) id), refs := ?_, wf := ?_, sorted := ?_, nr := hL.nr, kept := fun b hb => ⟨(h.kept b hb).1, fun hm => (h.kept b hb).2.1 (hperm.sub b hm), (h.kept b hb).2.2⟩, os := h.os, tape := h.tape, output := h.output, grew := h.grew }
        · simpa [Act.put] using h.defers
        · simpa [Act.put, hlen] using h.size
        · intro t ht
          have ht' : t < a.tmps.size := by simpa [Act.put] using ht
          by_cases e : d = t
          · subst e
            simp [Act.put, ht', hdT, hvc]
          · rw [List.getElem?_set_ne e]
            simp only [Act.put]
            rw [Array.getElem?_setIfInBounds_ne e, h.tmps t ht', hv]
        · rw [okL_append, okL_set hy]
          have hokT' := (okL_cut hy).1 hokT
          exact ⟨⟨hokT'.1, hokc, hokT'.2.2⟩, hokA.2.2⟩
        · intro z hz
          rcases List.mem_or_eq_of_mem_set hz with hz | rfl
          · refine RefOk.put (d := d) (fun r x' hr hx' hp => ?_) z (hmen z hz) (hrT z hz)
            rw [List.getElem?_set_ne (Ne.symm hr)]
            exact hST r x' hr hx' hp
          · refine RefOk.put (d := d) (fun r x' hr hx' hp => ?_) z hmc hrc
            rw [List.getElem?_set_ne (Ne.symm hr)]
            exact hST r x' hr hx' hp
        · intro z hz
          rcases List.mem_or_eq_of_mem_set hz with hz | rfl
          · exact hwT z hz
          · exact hwc
        · intro z hz
          rcases List.mem_or_eq_of_mem_set hz with hz | rfl
          · exact hsT z hz
          · exact hsc
      have hokS := ((okL_append _ _).1 h.ok).1
      split
      · rename_i hroot
        refine key (Sc.map (cun d)) (cun d c) (by simp) (fun t => ?_) (okL_cun d Sc hokS) (fps_cun d Sc) ?_ ?_ ?_ ?_ ?_ (val_cun d c) ?_ ?_ ?_ ?_ ?_ ?_
        · simp only [List.getElem?_map, Option.map_map]
          congr 1; funext z; simp [val_cun]
        · intro y hy
          obtain ⟨z, hz, rfl⟩ := List.mem_map.1 hy
          unfold cun; split
          · simp [men]
          · rename_i hm; simpa using hm
        · intro y hy
          obtain ⟨z, hz, rfl⟩ := List.mem_map.1 hy
          unfold cun; split
          · simp [RefOk]
          · exact h.refs z hz
        · intro y hy
          obtain ⟨z, hz, rfl⟩ := List.mem_map.1 hy
          unfold cun; split
          · simp [Wf]
          · exact h.wf z hz
        · intro y hy
          obtain ⟨z, hz, rfl⟩ := List.mem_map.1 hy
          unfold cun; split
          · exact .inr (by simp [NoOwn])
          · exact h.sorted z hz
        · intro r y _ hy hp
          simp [List.getElem?_map, hy, cun, root_men hp]
        · unfold cun; split
          · simp [Ok]
          · exact hc
        · unfold cun; split
          · exact Fits.of_sublist (by simp [fp])
          · exact hfu
        · unfold cun; split
          · simp [RefOk]
          · exact hr
        · unfold cun; split
          · simp [Wf]
          · exact hwf
        · unfold cun; split
          · exact .inr (by simp [NoOwn])
          · exact hso
        · unfold cun; split
          · simp [men]
          · rename_i hm; simpa using hm
      · rename_i hroot
        have hroot' : rootable x = false := by simpa using hroot
        exact key Sc c rfl (fun _ => rfl) hokS (List.Sublist.refl _) (fun y hy => RefOk.rootable hx hroot' y (h.refs y hy)) h.refs h.wf h.sorted (fun _ _ _ h _ => h) rfl hc hfu hr hwf hso (RefOk.rootable hx hroot' c hr)

theorem Good.put {c : CV} (h : Good K w0 Z Sc (c :: L) a w) (dst : Option Nat) : Good K w0 Z (cput dst c Sc) L (a.put dst (val c)) w :=
  h.putG dst ((okL_append _ _).1 h.ok).2.1 (Fits.refl _) (h.nr c (by simp)).refOk (h.nr c (by simp)).wf (.inl (h.nr c (by simp)))

/-- A value without blocks may stand beside the frame. -/
theorem Good.add {c : CV} (h : Good K w0 Z Sc L a w) (hok : Ok w Z c) (hf : fp c = []) (hn : NR c) : Good K w0 Z Sc (c :: L) a w := by
  refine h.turn rfl (fun _ => rfl) ?_ ?_ h.refs h.wf h.sorted ?_
  · rw [okL_append]; have := (okL_append _ _).1 h.ok; exact ⟨this.1, hok, this.2⟩
  · simp only [fps_append, fps, hf, List.nil_append]; exact Fits.refl _
  · intro x hx
    rcases List.mem_cons.1 hx with rfl | hx
    · exact hn
    · exact h.nr x hx

/-- A value read off the frame (it owns nothing) goes into a slot. -/
theorem Good.putq {c : CV} (h : Good K w0 Z Sc L a w) (dst : Option Nat) (hr : RefOk Sc c) (hw : Wf c) (hok : Ok w Z c) (hs : NoOwn c) : Good K w0 Z (cput dst c Sc) L (a.put dst (val c)) w :=
  (h.add (c := .bool false) (by simp [Ok]) (by simp [fp]) (by simp [NR, Pl])).putG dst hok (by rw [hs.fp c hok]; simp only [fp]; exact Fits.refl _) hr hw (.inr hs)
end
end Go.Bv

/-! Reading slots; taking what a read value leans on out of its place. -/
namespace Go.Bv
open Go Go.RowKit
set_option linter.unusedSimpArgs false
set_option linter.unusedVariables false

theorem ok_same {w : World} {Z : Nat → Prop} : ∀ (p : List Nat) (x : CV) (l : Option Addr) (y : CV) (l' : Option Addr) (y' : CV), cgetN x l p = some (y, l') → flat y' = flat y → Ok w Z y' →
    flat (csetN x p y') = flat x ∧ (Ok w Z x → Ok w Z (csetN x p y'))
  | [], x, l, y, l', y', h, hf, hk => by
    simp only [cgetN, Option.some.injEq, Prod.mk.injEq] at h
    simp only [csetN]; exact ⟨by rw [hf, h.1], fun _ => hk⟩
  | i :: p, x, l, y, l', y', h, hf, hk => by
    cases x <;> simp only [cgetN] at h <;> try (cases h; done)
    · rename_i o s A c xs
      split at h
      · cases h
      rename_i ho
      split at h
      case h_2 => cases h
      rename_i z hz
      obtain ⟨h1, h2⟩ := ok_same p z _ y l' y' h hf hk
      have hfl : flats (xs.set i (csetN z p y')) = flats xs := by rw [flats_set hz, h1, ← flats_cut hz]
      simp only [csetN, hz]
      refine ⟨by simp [flat], fun hx => ?_⟩
      simp only [Ok] at hx ⊢
      obtain ⟨a1, a2, a3, a4⟩ := hx
      refine ⟨by rw [hfl]; simpa using a1, ?_, fun e => absurd e ho, ?_⟩
      · intro u hu
        rcases List.mem_or_eq_of_mem_set hu with hu | rfl
        · exact a2 u hu
        · rw [h1]; exact a2 z (List.mem_of_getElem? hz)
      · rw [okL_set hz]
        have := (okL_cut hz).1 a4
        exact ⟨this.1, h2 this.2.1, this.2.2⟩
    · rename_i xs
      split at h
      case h_2 => cases h
      rename_i z hz
      obtain ⟨h1, h2⟩ := ok_same p z _ y l' y' h hf hk
      simp only [csetN, hz, flat]
      refine ⟨by rw [flats_set hz, h1, ← flats_cut hz], fun hx => ?_⟩
      simp only [Ok] at hx ⊢
      rw [okL_set hz]
      have := (okL_cut hz).1 hx
      exact ⟨this.1, h2 this.2.1, this.2.2⟩

theorem ok_get {w : World} {Z : Nat → Prop} : ∀ (p : List Nat) (x : CV) (l : Option Addr) (y : CV) (l' : Option Addr), cgetN x l p = some (y, l') → Ok w Z x → Ok w Z y
  | [], x, l, y, l', h, hk => by simp only [cgetN, Option.some.injEq, Prod.mk.injEq] at h; exact h.1 ▸ hk
  | i :: p, x, l, y, l', h, hk => by
    cases x <;> simp only [cgetN] at h <;> try (cases h; done)
    · split at h
      · cases h
      split at h
      case h_2 => cases h
      rename_i z hz
      simp only [Ok] at hk
      exact ok_get p z _ y l' h ((okL_cut hz).1 hk.2.2.2).2.1
    · split at h
      case h_2 => cases h
      rename_i z hz
      simp only [Ok] at hk
      exact ok_get p z _ y l' h ((okL_cut hz).1 hk).2.1
/-- What lies at a place lies in memory. -/
theorem cells_get {w : World} {Z : Nat → Prop} : ∀ (p : List Nat) (x : CV) (l : Option Addr) (y : CV) (a : Addr), cgetN x l p = some (y, some a) → Ok w Z x →
    (∀ b, l = some b → b.spot = none ∧ CellsAt w b (flat x)) → a.spot = none ∧ CellsAt w a (flat y)
  | [], x, l, y, a, h, hk, hl => by
    simp only [cgetN, Option.some.injEq, Prod.mk.injEq] at h
    obtain ⟨rfl, rfl⟩ := h
    exact hl a rfl
  | i :: p, x, l, y, a, h, hk, hl => by
    cases x <;> simp only [cgetN] at h <;> try (cases h; done)
    · rename_i o s A c xs
      split at h
      · cases h
      split at h
      case h_2 => cases h
      rename_i z hz
      simp only [Ok] at hk
      obtain ⟨a1, a2, a3, a4⟩ := hk
      have hi := (List.getElem?_eq_some_iff.1 hz).1
      refine cells_get p z _ y a h ((okL_cut hz).1 a4).2.1 fun b hb => ?_
      rcases a1.2.1 with h0 | ⟨ad, rfl, hs, hc, _⟩
      · omega
      · simp only [Option.map_some, Option.some.injEq] at hb
        subst hb
        refine ⟨add_spot hs _, ?_⟩
        rw [flats_cut hz, cellsAt_append hs, cellsAt_append (add_spot hs _)] at hc
        have : (flats (xs.take i)).length = i * s := by
          rw [flats_len_of (s := s) fun x hx => a2 x (List.mem_of_mem_take hx)]; simp [Nat.min_eq_left (Nat.le_of_lt hi)]
        rw [this] at hc
        exact hc.2.1
    · rename_i xs
      split at h
      case h_2 => cases h
      rename_i z hz
      simp only [Ok] at hk
      refine cells_get p z _ y a h ((okL_cut hz).1 hk).2.1 fun b hb => ?_
      cases l with
      | none => simp at hb
      | some b0 =>
        simp only [Option.map_some, Option.some.injEq] at hb
        subst hb
        obtain ⟨h1, h2⟩ := hl b0 rfl
        simp only [flat] at h2
        rw [flats_cut hz, cellsAt_append h1, cellsAt_append (add_spot h1 _)] at h2
        exact ⟨add_spot h1 _, h2.2.1⟩

theorem val_of_flat {x y : CV} (hx : ∀ xs, x ≠ .tup xs) (hy : ∀ xs, y ≠ .tup xs) (ha : (∃ xs, x = .agg xs) ↔ (∃ ys, y = .agg ys)) (h : flat x = flat y) : val x = val y := by
  cases x <;> cases y <;> simp_all [val, val1, flat]

theorem flat_one {x : CV} (h : ∀ xs, x ≠ .agg xs) : flat x = [val1 x] := by
  cases x <;> simp_all [flat, val1]

section
variable {K : Nat → Prop} {w0 : World} {Z : Nat → Prop} {Sc L : List CV} {a : Act} {w : World}

theorem ok_root {x : CV} (h : Ok w Z x) : Ok w Z (rootC x).1 ∧ (∀ b, (rootC x).2 = some b → b.spot = none ∧ CellsAt w b (flat (rootC x).1)) := by
  cases x <;> try exact ⟨h, by simp [rootC]⟩
  rename_i b ty x
  simp only [Ok] at h
  simp only [rootC, Option.some.injEq]
  refine ⟨h.2, ?_⟩
  rintro _ rfl
  refine ⟨rfl, ?_⟩
  rw [cellsAt_iff rfl]
  intro j v hj
  simp [World.cell?, h.1, hj]

theorem root_cases {x : CV} (h : Pl (rootC x).1) : (∃ b ty z, x = .box b ty z ∧ Pl z) ∨ (Pl x ∧ rootC x = (x, none) ∧ ∀ p y, csetR x p y = csetN x p y) := by
  cases x <;> first | exact .inl ⟨_, _, _, rfl, h⟩ | exact .inr ⟨h, rfl, fun _ _ => rfl⟩
theorem agg_set : ∀ (p : List Nat) {x : CV} {l : Option Addr} {y y' : CV} {l' : Option Addr}, cgetN x l p = some (y, l') → ((∃ xs, y = .agg xs) ↔ (∃ xs, y' = .agg xs)) → ((∃ xs, csetN x p y' = .agg xs) ↔ (∃ xs, x = .agg xs))
  | [], x, l, y, y', l', h, hagg => by
    simp only [cgetN, Option.some.injEq, Prod.mk.injEq] at h
    obtain ⟨rfl, rfl⟩ := h
    simp only [csetN]; exact hagg.symm
  | i :: p, x, l, y, y', l', h, hagg => by
    cases x <;> simp only [cgetN] at h <;> try (cases h; done)
    · rename_i o s A c xs
      simp only [csetN]; split <;> simp
    · rename_i xs
      simp only [csetN]; split <;> simp
theorem Pl.not_tup {x : CV} (h : Pl x) : ∀ xs, x ≠ .tup xs := by
  rintro xs rfl; simp [Pl] at h

/-- Turning the content of one place, memory as it was. -/
theorem Good.reset (h : Good K w0 Z Sc L a w) {r : Nat} {p : List Nat} {x0 y y' : CV} {l : Option Addr} (hx : Sc[r]? = some x0) (hp : Pl (rootC x0).1) (hg : cgetN (rootC x0).1 (rootC x0).2 p = some (y, l))
    (hf : flat y' = flat y) (hk : Ok w Z y') (hpl : Pl y') (hfp : Fits (fp y') (fp y)) (hagg : (∃ xs, y = .agg xs) ↔ (∃ xs, y' = .agg xs)) :
    Good K w0 Z (csetc Sc r p y') L a w ∧ (∀ u, RefOk Sc u → hit r p u = false → RefOk (csetc Sc r p y') u) ∧
      (∃ P1 P2, fps (Sc ++ L) = P1 ++ (fp y ++ P2) ∧ ∃ Q1 Q2, Q1.Sublist P1 ∧ Q2.Sublist P2 ∧ fps (csetc Sc r p y' ++ L) = Q1 ++ (fp y' ++ Q2)) := by
  have hokS := (okL_append _ _).1 h.ok
  have hokx := ((okL_cut hx).1 hokS.1).2.1
  obtain ⟨hsame, hokset⟩ := ok_same p _ _ y l y' hg hf hk
  obtain ⟨L1, R1, hf1, hf2⟩ := fp_set p _ _ y l hg
  have hrefs : ∀ u, RefOk Sc u → hit r p u = false → RefOk (csetc Sc r p y') u := fun u hu hh => RefOk.set hx hp hpl hg (by rw [hf]) u hh hu
  -- the root slot turned
  have hokR : Ok w Z (csetR x0 p y') := by
    have hr := ok_root hokx
    rcases root_cases hp with ⟨b, ty, z, rfl, hz⟩ | ⟨hz, hrt, hcs⟩
    · simp only [rootC] at hsame hokset
      simp only [csetR, Ok] at hokx ⊢
      exact ⟨by rw [hsame]; exact hokx.1, hokset hokx.2⟩
    · rw [hrt] at hokset hr; rw [hcs]; exact hokset hr.1
  have hvalR : val (csetR x0 p y') = val x0 := by
    rcases root_cases hp with ⟨b, ty, z, rfl, hz⟩ | ⟨hz, hrt, hcs⟩
    · simp [csetR, val, val1, flat]
    · rw [hrt] at hsame hg; rw [hcs]
      exact val_of_flat (Pl.set p _ y' hz hpl).not_tup hz.not_tup (agg_set p hg hagg) hsame
  have hslot := cset_slot (p := p) (y := y') hx hp hpl
  have hrl := (List.getElem?_eq_some_iff.1 hx).1
  have hlist : csetc Sc r p y' = (cclr r p Sc).set r (csetR x0 p y') := by
    apply List.ext_getElem?
    intro t
    rw [hslot]
    by_cases e : t = r
    · subst e; simp [cclr, hrl]
    · rw [if_neg e, List.getElem?_set_ne (Ne.symm e)]; simp [cclr]
  have hsubl : ∀ xs : List CV, (fps (cclr r p xs)).Sublist (fps xs) := by
    intro xs
    induction xs with
    | nil => simp [cclr, fps]
    | cons x xs ih =>
      simp only [cclr, List.map_cons, fps] at ih ⊢
      refine List.Sublist.append ?_ ih
      split
      · simp [fp]
      · exact List.Sublist.refl _
  have hokc : ∀ xs : List CV, OkL w Z xs → OkL w Z (cclr r p xs) := by
    intro xs hxs
    rw [okL_iff] at hxs ⊢
    intro z hz
    simp only [cclr, List.mem_map] at hz
    obtain ⟨u, hu, rfl⟩ := hz
    split
    · simp [Ok]
    · exact hxs u hu
  have hcx : (cclr r p Sc)[r]? = some x0 := by simp [cclr, hx, root_hit hp]
  obtain ⟨pre, hfpR, hfp0⟩ : ∃ pre, fp (csetR x0 p y') = pre ++ (L1 ++ fp y' ++ R1) ∧ fp x0 = pre ++ (L1 ++ fp y ++ R1) := by
    rcases root_cases hp with ⟨b, ty, z, rfl, hz⟩ | ⟨hz, hrt, hcs⟩
    · simp only [rootC] at hf1 hf2
      exact ⟨[b], by simp [csetR, fp, hf2], by simp [fp, hf1]⟩
    · rw [hrt] at hf1 hf2
      exact ⟨[], by rw [hcs, hf2]; rfl, by rw [hf1]; rfl⟩
  have hnew : fps (csetc Sc r p y' ++ L) = (fps ((cclr r p Sc).take r) ++ pre ++ L1) ++ (fp y' ++ (R1 ++ fps ((cclr r p Sc).drop (r + 1)) ++ fps L)) := by
    rw [hlist, fps_append, set_at _ hcx, fps_append]
    simp [fps, hfpR]
  have hold : fps (Sc ++ L) = (fps (Sc.take r) ++ pre ++ L1) ++ (fp y ++ (R1 ++ fps (Sc.drop (r + 1)) ++ fps L)) := by
    rw [fps_append, fps_cut hx, hfp0]
    simp
  have hs1 : (fps ((cclr r p Sc).take r) ++ pre ++ L1).Sublist (fps (Sc.take r) ++ pre ++ L1) := by
    refine List.Sublist.append (List.Sublist.append ?_ (List.Sublist.refl _)) (List.Sublist.refl _)
    have := hsubl (Sc.take r); simpa [cclr, List.map_take] using this
  have hs2 : (R1 ++ fps ((cclr r p Sc).drop (r + 1)) ++ fps L).Sublist (R1 ++ fps (Sc.drop (r + 1)) ++ fps L) := by
    refine List.Sublist.append (List.Sublist.append (List.Sublist.refl _) ?_) (List.Sublist.refl _)
    have := hsubl (Sc.drop (r + 1)); simpa [cclr, List.map_drop] using this
  refine ⟨?_, hrefs, _, _, hold, _, _, hs1, hs2, hnew⟩
  refine h.turn ?_ (fun t => ?_) ?_ ?_ ?_ ?_ ?_ h.nr
  · rw [hlist]; simp [cclr]
  · rw [hslot]
    split
    · rename_i e; subst e; rw [hx]; simp [hvalR]
    · simp only [Option.map_map]
      congr 1; funext z
      simp only [Function.comp]
      split
      · exact val_undef _
      · rfl
  · rw [okL_append, hlist, okL_set hcx]
    have := (okL_cut hcx).1 (hokc _ hokS.1)
    exact ⟨⟨this.1, hokR, this.2.2⟩, hokS.2⟩
  · rw [hnew, hold]
    refine Fits.trans (b := (fps (Sc.take r) ++ pre ++ L1) ++ (fp y' ++ (R1 ++ fps (Sc.drop (r + 1)) ++ fps L))) (Fits.of_sublist (List.Sublist.append hs1 (List.Sublist.append (List.Sublist.refl _) hs2))) ⟨fun hnd => ?_, fun b hb => ?_⟩
    · rw [List.nodup_append, List.nodup_append (l₁ := fp y)] at hnd
      rw [List.nodup_append, List.nodup_append (l₁ := fp y')]
      obtain ⟨n1, ⟨n2, n3, n4⟩, n5⟩ := hnd
      exact ⟨n1, ⟨hfp.nodup n2, n3, fun a ha b hb => n4 a (hfp.sub a ha) b hb⟩, fun a ha b hb => n5 a ha b (by
        rcases List.mem_append.1 hb with hb | hb
        · exact List.mem_append.2 (.inl (hfp.sub b hb))
        · exact List.mem_append.2 (.inr hb))⟩
    · rcases List.mem_append.1 hb with hb | hb
      · exact List.mem_append.2 (.inl hb)
      · rcases List.mem_append.1 hb with hb | hb
        · exact List.mem_append.2 (.inr (List.mem_append.2 (.inl (hfp.sub b hb))))
        · exact List.mem_append.2 (.inr (List.mem_append.2 (.inr hb)))
  · intro z hz
    obtain ⟨t, ht, rfl⟩ := List.getElem_of_mem hz
    have ht' : (csetc Sc r p y')[t]? = some (csetc Sc r p y')[t] := List.getElem?_eq_getElem ht
    rw [hslot] at ht'
    split at ht'
    · simp only [Option.some.injEq] at ht'
      rw [← ht']
      rcases root_cases hp with ⟨b, ty, z, rfl, hz⟩ | ⟨hz, hrt, hcs⟩
      · simp [csetR, RefOk]
      · rw [hcs]; exact (Pl.set p _ y' hz hpl).refOk
    · cases hu : Sc[t]? with
      | none => simp [hu] at ht'
      | some u =>
        simp only [hu, Option.map_some, Option.some.injEq] at ht'
        rw [← ht']
        split
        · simp [RefOk]
        · rename_i hh; exact hrefs u (h.refs u (List.mem_of_getElem? hu)) (by simpa using hh)
  · intro z hz
    obtain ⟨t, ht, rfl⟩ := List.getElem_of_mem hz
    have ht' : (csetc Sc r p y')[t]? = some (csetc Sc r p y')[t] := List.getElem?_eq_getElem ht
    rw [hslot] at ht'
    split at ht'
    · simp only [Option.some.injEq] at ht'
      rw [← ht']
      rcases root_cases hp with ⟨b, ty, z, rfl, hz⟩ | ⟨hz, hrt, hcs⟩
      · simp only [csetR, Wf]; exact Pl.set p _ y' hz hpl
      · rw [hcs]; exact (Pl.set p _ y' hz hpl).wf
    · cases hu : Sc[t]? with
      | none => simp [hu] at ht'
      | some u =>
        simp only [hu, Option.map_some, Option.some.injEq] at ht'
        rw [← ht']
        split
        · simp [Wf]
        · exact h.wf u (List.mem_of_getElem? hu)
  · intro z hz
    obtain ⟨t, ht, rfl⟩ := List.getElem_of_mem hz
    have ht' : (csetc Sc r p y')[t]? = some (csetc Sc r p y')[t] := List.getElem?_eq_getElem ht
    rw [hslot] at ht'
    split at ht'
    · simp only [Option.some.injEq] at ht'
      rw [← ht']
      rcases root_cases hp with ⟨b, ty, z, rfl, hz⟩ | ⟨hz, hrt, hcs⟩
      · exact .inl (by simp only [csetR, NR]; exact Pl.set p _ y' hz hpl)
      · rw [hcs]; exact .inl (Pl.set p _ y' hz hpl).nr
    · cases hu : Sc[t]? with
      | none => simp [hu] at ht'
      | some u =>
        simp only [hu, Option.map_some, Option.some.injEq] at ht'
        rw [← ht']
        split
        · exact .inr (by simp [NoOwn])
        · exact h.sorted u (List.mem_of_getElem? hu)
end
end Go.Bv

/-! Reading an operand; taking what a read value leans on. -/
namespace Go.Bv
open Go Go.RowKit
set_option linter.unusedSimpArgs false
set_option linter.unusedVariables false

mutual
def cview (r : Nat) (p : List Nat) : CV → CV
  | .lst true _ A c xs => .ref r p 0 xs.length (.slice A xs.length c)
  | .agg xs => .agg (cviews r p 0 xs)
  | x => x
def cviews (r : Nat) (p : List Nat) (i : Nat) : List CV → List CV
  | [] => []
  | x :: xs => cview r (p ++ [i]) x :: cviews r p (i + 1) xs
end
mutual
def aview (r : Nat) (p : List Nat) : AV → AV
  | .lst true _ xs => .ref r p 0 xs.length
  | .agg xs => .agg (aviews r p 0 xs)
  | x => x
def aviews (r : Nat) (p : List Nat) (i : Nat) : List AV → List AV
  | [] => []
  | x :: xs => aview r (p ++ [i]) x :: aviews r p (i + 1) xs
end
mutual
theorem er_view (r : Nat) : ∀ (x : CV) (p : List Nat), er (cview r p x) = aview r p (er x)
  | .lst o _ _ _ xs, p => by cases o <;> simp [er, cview, aview, ers_eq]
  | .agg xs, p => by simp only [er, cview, aview, er_views r xs p 0]
  | .undef _, _ | .bool _, _ | .int _ _, _ | .str _, _ | .fn _ _, _ | .ip _ _, _ | .at _ _ _, _ | .ref _ _ _ _ _, _ | .box _ _ _, _ | .tup _, _ => by simp [er, cview, aview]
theorem er_views (r : Nat) : ∀ (xs : List CV) (p : List Nat) (i : Nat), ers (cviews r p i xs) = aviews r p i (ers xs)
  | [], _, _ => by simp [ers, cviews, aviews]
  | x :: xs, p, i => by simp only [ers, cviews, aviews, er_view r x, er_views r xs]
end
mutual
theorem flat_view (r : Nat) : ∀ (x : CV) (p : List Nat), flat (cview r p x) = flat x
  | .lst o _ _ _ xs, p => by cases o <;> simp [flat, cview]
  | .agg xs, p => by simp only [flat, cview, flats_view r xs p 0]
  | .undef _, _ | .bool _, _ | .int _ _, _ | .str _, _ | .fn _ _, _ | .ip _ _, _ | .at _ _ _, _ | .ref _ _ _ _ _, _ | .box _ _ _, _ | .tup _, _ => by simp [flat, cview]
theorem flats_view (r : Nat) : ∀ (xs : List CV) (p : List Nat) (i : Nat), flats (cviews r p i xs) = flats xs
  | [], _, _ => by simp [cviews]
  | x :: xs, p, i => by simp only [flats, cviews, flat_view r x, flats_view r xs]
end
theorem val_view (r : Nat) (p : List Nat) (x : CV) (h : ∀ xs, x ≠ .tup xs) : val (cview r p x) = val x := by
  cases x <;> try (first | rfl | exact absurd rfl (h _))
  · rename_i o s A c xs; cases o <;> simp [cview, val, val1, flat]
  · simp [cview, val, val1, flats_view]
mutual
theorem view_noOwn (r : Nat) : ∀ (x : CV) (p : List Nat), Pl x → NoOwn (cview r p x)
  | .lst o _ _ _ xs, p, _ => by cases o <;> simp [cview, NoOwn]
  | .agg xs, p, h => by simp only [Pl] at h; simp only [cview, NoOwn]; exact views_noOwn r xs p 0 h
  | .undef _, _, _ | .bool _, _, _ | .int _ _, _, _ | .str _, _, _ | .fn _ _, _, _ => by simp [cview, NoOwn]
  | .ip _ _, _, h => by simp only [Pl] at h; simp only [cview, NoOwn]; exact .inl h
  | .at _ _ _, _, h | .ref _ _ _ _ _, _, h | .box _ _ _, _, h | .tup _, _, h => by simp [Pl] at h
theorem views_noOwn (r : Nat) : ∀ (xs : List CV) (p : List Nat) (i : Nat), PlL xs → NoOwnL (cviews r p i xs)
  | [], _, _, _ => by simp [cviews, NoOwnL]
  | x :: xs, p, i, h => by simp only [PlL] at h; simp only [cviews, NoOwnL]; exact ⟨view_noOwn r x _ h.1, views_noOwn r xs p _ h.2⟩
end
mutual
theorem view_wf (r : Nat) : ∀ (x : CV) (p : List Nat), Pl x → Wf (cview r p x)
  | .lst o _ _ _ xs, p, h => by cases o <;> simp only [cview, Wf]; simpa only [Pl] using h
  | .agg xs, p, h => by simp only [Pl] at h; simp only [cview, Wf]; exact views_wf r xs p 0 h
  | .undef v, _, h | .bool v, _, h | .int _ _, _, h | .str _, _, h | .fn _ _, _, h | .ip _ _, _, h => by simp only [cview]; exact Pl.wf _ h
  | .at _ _ _, _, h | .ref _ _ _ _ _, _, h | .box _ _ _, _, h | .tup _, _, h => by simp [Pl] at h
theorem views_wf (r : Nat) : ∀ (xs : List CV) (p : List Nat) (i : Nat), PlL xs → WfL (cviews r p i xs)
  | [], _, _, _ => by simp [cviews, WfL]
  | x :: xs, p, i, h => by simp only [PlL] at h; simp only [cviews, WfL]; exact ⟨view_wf r x _ h.1, views_wf r xs p _ h.2⟩
end
mutual
theorem view_ok {w : World} {Z : Nat → Prop} (r : Nat) : ∀ (x : CV) (p : List Nat), Ok w Z x → Ok w Z (cview r p x)
  | .lst o _ _ _ xs, p, h => by cases o <;> simp only [cview] <;> first | exact h | simp [Ok]
  | .agg xs, p, h => by simp only [Ok] at h; simp only [cview, Ok]; exact views_ok r xs p 0 h
  | .undef _, _, h | .bool _, _, h | .int _ _, _, h | .str _, _, h | .fn _ _, _, h | .ip _ _, _, h | .at _ _ _, _, h | .ref _ _ _ _ _, _, h | .box _ _ _, _, h | .tup _, _, h => by simp only [cview]; exact h
theorem views_ok {w : World} {Z : Nat → Prop} (r : Nat) : ∀ (xs : List CV) (p : List Nat) (i : Nat), OkL w Z xs → OkL w Z (cviews r p i xs)
  | [], _, _, _ => by simp [cviews, OkL]
  | x :: xs, p, i, h => by simp only [OkL] at h; simp only [cviews, OkL]; exact ⟨view_ok r x _ h.1, views_ok r xs p _ h.2⟩
end
theorem get_append : ∀ (p q : List Nat) (x : CV) (l : Option Addr), cgetN x l (p ++ q) = (cgetN x l p).bind fun y => cgetN y.1 y.2 q
  | [], q, x, l => by simp [cgetN]
  | i :: p, q, x, l => by
    cases x <;> simp only [List.cons_append, cgetN, Option.bind_none] <;> (try rfl)
    · split
      · rfl
      · split
        · exact get_append p q _ _
        · rfl
    · split
      · exact get_append p q _ _
      · rfl
mutual
theorem view_refOk {Sc : List CV} {w : World} {Z : Nat → Prop} {r : Nat} {x0 : CV} (hx : Sc[r]? = some x0) (hp : Pl (rootC x0).1) : ∀ (y : CV) (p : List Nat) (l : Option Addr),
    cgetN (rootC x0).1 (rootC x0).2 p = some (y, l) → Pl y → Ok w Z y → RefOk Sc (cview r p y)
  | .lst o s A c xs, p, l, hg, _, hk => by
    cases o
    · simp [cview, RefOk]
    · simp only [cview, RefOk]
      simp only [Ok] at hk
      refine ⟨x0, s, A, c, xs, l, hx, hp, hg, by simp, A, c, rfl, Nat.zero_le _, by simp, hk.1.1, fun _ => rfl, fun _ => ?_⟩
      cases A <;> simp [Addr.add]
  | .agg xs, p, l, hg, hpl, hk => by
    simp only [cview, RefOk]
    simp only [Pl] at hpl
    simp only [Ok] at hk
    refine views_refOk hx hp xs p 0 hpl hk fun j y hj => ?_
    rw [get_append, hg]
    simp [cgetN, hj]
  | .undef _, _, _, _, _, _ | .bool _, _, _, _, _, _ | .int _ _, _, _, _, _, _ | .str _, _, _, _, _, _ => by simp [cview, RefOk]
  | .ip a x, _, _, _, h, _ => by simp only [cview]; exact Pl.refOk (.ip a x) h
  | .fn f xs, _, _, _, h, _ => by simp only [cview]; exact Pl.refOk _ h
  | .at _ _ _, _, _, _, h, _ | .ref _ _ _ _ _, _, _, _, h, _ | .box _ _ _, _, _, _, h, _ | .tup _, _, _, _, h, _ => by simp [Pl] at h
theorem views_refOk {Sc : List CV} {w : World} {Z : Nat → Prop} {r : Nat} {x0 : CV} (hx : Sc[r]? = some x0) (hp : Pl (rootC x0).1) : ∀ (ys : List CV) (p : List Nat) (i : Nat),
    PlL ys → OkL w Z ys → (∀ (j : Nat) y, ys[j]? = some y → ∃ l, cgetN (rootC x0).1 (rootC x0).2 (p ++ [i + j]) = some (y, l)) → RefOkL Sc (cviews r p i ys)
  | [], _, _, _, _, _ => by simp [cviews, RefOkL]
  | y :: ys, p, i, h, hk, hg => by
    simp only [PlL] at h
    simp only [OkL] at hk
    simp only [cviews, RefOkL]
    obtain ⟨l, hl⟩ := hg 0 y rfl
    refine ⟨view_refOk hx hp y _ l (by simpa using hl) h.1 hk.1, views_refOk hx hp ys p (i + 1) h.2 hk.2 fun j z hj => ?_⟩
    obtain ⟨l, hl⟩ := hg (j + 1) z (by simpa using hj)
    exact ⟨l, by rw [show i + 1 + j = i + (j + 1) by omega]; exact hl⟩
end
mutual
theorem view_same (r : Nat) : ∀ (x : CV) (p : List Nat), NoOwn x → cview r p x = x
  | .lst o _ _ _ xs, p, h => by simp only [NoOwn] at h; subst h; simp [cview]
  | .agg xs, p, h => by simp only [NoOwn] at h; simp only [cview, views_same r xs p 0 h]
  | .undef _, _, h | .bool _, _, h | .int _ _, _, h | .str _, _, h | .fn _ _, _, h | .ip _ _, _, h | .at _ _ _, _, h | .ref _ _ _ _ _, _, h | .box _ _ _, _, h | .tup _, _, h => by simp only [cview]
theorem views_same (r : Nat) : ∀ (xs : List CV) (p : List Nat) (i : Nat), NoOwnL xs → cviews r p i xs = xs
  | [], _, _, _ => by simp [cviews]
  | x :: xs, p, i, h => by simp only [NoOwnL] at h; simp only [cviews, view_same r x _ h.1, views_same r xs p _ h.2]
end

theorem view_not_tup {t : Nat} {p : List Nat} : ∀ {x : CV}, (∀ xs, x ≠ .tup xs) → ∀ xs, cview t p x ≠ .tup xs
  | .lst o _ _ _ _, _, xs => by cases o <;> simp [cview]
  | .agg _, _, xs => by simp [cview]
  | .tup ys, h, _ => absurd rfl (h ys)
  | .undef _, _, _ | .bool _, _, _ | .int _ _, _, _ | .str _, _, _ | .fn _ _, _, _ | .ip _ _, _, _ | .at _ _ _, _, _ | .ref _ _ _ _ _, _, _ | .box _ _ _, _, _ => by simp [cview]

def cconst : Value → Option CV
  | .bool b => some (.bool b)
  | .int k n => some (.int k n)
  | .string s => some (.str s)
  | .slice none 0 0 => some (.lst true 0 none 0 [])
  | _ => none
def aconst : Value → Option AV
  | .bool b => some (.bool b)
  | .int k n => some (.int k n)
  | .string s => some (.str s)
  | .slice none 0 0 => some (.lst true 0 [])
  | _ => none
theorem er_const (v : Value) : (cconst v).map er = aconst v := by
  unfold cconst aconst
  split <;> simp_all [er, ers]
theorem const_ok {v : Value} {c : CV} (h : cconst v = some c) : val c = v ∧ Pl c ∧ fp c = [] ∧ ∀ w Z, Ok w Z c := by
  unfold cconst at h
  split at h
  all_goals first
    | (cases h; done)
    | (simp only [Option.some.injEq] at h; subst h; simp [val, val1, flat, Pl, PlL, fp, fps, Ok, OkL, HdrOk, flats])

/-- An operand's value, as read. -/
def ard (S : List AV) : Operand → Option AV
  | .tmp t => match S[t]? with | some (.box _) => some (.at t []) | some (.tup _) => none | some x => some (aview t [] x) | none => none
  | .const v => aconst v
  | .func f => some (.fn f [])
  | .global _ => none

section
variable {K : Nat → Prop} {w0 : World} {Z : Nat → Prop} {Sc L : List CV} {a : Act} {w : World}

theorem Good.eval_tmp (h : Good K w0 Z Sc L a w) {t : Nat} {x : CV} (hx : Sc[t]? = some x) : a.eval (.tmp t) = val x := by
  have hl := (List.getElem?_eq_some_iff.1 hx).1
  have := h.tmps t (by rw [h.size]; exact hl)
  rw [hx] at this
  simp [Act.eval, Array.getD_eq_getD_getElem?, this]

/-- What is told of a value that was read off the frame. -/
structure Rd (w : World) (Z : Nat → Prop) (Sc : List CV) (c : CV) : Prop where
  refOk : RefOk Sc c
  wf : Wf c
  ok : Ok w Z c
  fp : fp c = []
  sorted : Pl c ∨ NoOwn c

theorem Good.rd (h : Good K w0 Z Sc L a w) {x : Operand} {v : AV} (hv : ard (ers Sc) x = some v) : ∃ c, er c = v ∧ val c = a.eval x ∧ Rd w Z Sc c ∧ (∀ xs, c ≠ .tup xs) := by
  cases x with
  | tmp t =>
    simp only [ard, ers_eq, List.getElem?_map] at hv
    cases hx : Sc[t]? with
    | none => simp [hx] at hv
    | some x =>
      simp only [hx, Option.map_some] at hv
      have hmem := List.mem_of_getElem? hx
      have hok : Ok w Z x := ((okL_cut hx).1 ((okL_append _ _).1 h.ok).1).2.1
      have hev := h.eval_tmp hx
      have hplain : (∀ b ty z, x ≠ .box b ty z) → (∀ xs, x ≠ .tup xs) → some (aview t [] (er x)) = some v → ∃ c, er c = v ∧ val c = a.eval (.tmp t) ∧ Rd w Z Sc c ∧ (∀ xs, c ≠ .tup xs) := by
        intro hnb hnt e
        refine ⟨cview t [] x, by rw [er_view]; simpa using e, by rw [val_view _ _ _ hnt, hev], ?_, ?_⟩
        · rcases h.sorted x hmem with hn | hn
          · have hpl : Pl x := by cases x <;> first | exact hn | exact absurd rfl (hnb _ _ _) | exact absurd rfl (hnt _)
            have hroot : rootC x = (x, none) := by cases x <;> first | rfl | exact absurd rfl (hnb _ _ _)
            have hno := view_noOwn t x [] hpl
            have hk := view_ok (w := w) (Z := Z) t x [] hok
            exact ⟨view_refOk hx (by rw [hroot]; exact hpl) x [] none (by rw [hroot]; rfl) hpl hok, view_wf t x [] hpl, hk, hno.fp _ hk, .inr hno⟩
          · rw [view_same t x [] hn]
            exact ⟨h.refs x hmem, h.wf x hmem, hok, hn.fp x hok, .inr hn⟩
        · exact view_not_tup hnt
      cases x <;> simp only [er] at hv hplain <;> try exact hplain (by simp) (by simp) hv
      · cases hv
      · rename_i b ty z
        simp only [Option.some.injEq] at hv
        refine ⟨.at t [] ⟨b, 0, none⟩, by simpa [er] using hv, by rw [hev]; simp [val, val1, flat], ⟨?_, by simp [Wf], by simp [Ok], by simp [Bv.fp], .inr (by simp [NoOwn])⟩, by simp⟩
        simp only [RefOk]
        exact ⟨_, z, hx, by simpa only [rootC, Wf] using h.wf _ hmem, by simp [rootC, cgetN]⟩
  | const v' =>
    simp only [ard, ← er_const] at hv
    cases hc : cconst v' with
    | none => simp [hc] at hv
    | some c =>
      simp only [hc, Option.map_some, Option.some.injEq] at hv
      obtain ⟨h1, h2, h3, h4⟩ := const_ok hc
      exact ⟨c, hv, h1, ⟨Pl.refOk _ h2, Pl.wf _ h2, h4 _ _, h3, .inl h2⟩, h2.not_tup⟩
  | func f =>
    simp only [ard, Option.some.injEq] at hv
    refine ⟨.fn f [], by simp [er, ers, hv], by simp [val, val1, flat, flats, Act.eval], ⟨by simp [RefOk, RefOkL], by simp [Wf, WfL], by simp [Ok, OkL, fps], by simp [Bv.fp, fps], .inl (by simp [Pl, PlL])⟩, by simp⟩
  | global g => simp [ard] at hv
end
end Go.Bv

/-! Taking: a read value becomes one of its own; what it leant on is gone from its place. -/
namespace Go.Bv
open Go Go.RowKit
set_option linter.unusedSimpArgs false
set_option linter.unusedVariables false

mutual
def refs : CV → List (Nat × List Nat)
  | .ref r p _ _ _ => [(r, p)]
  | .agg xs => refss xs
  | _ => []
def refss : List CV → List (Nat × List Nat)
  | [] => []
  | x :: xs => refs x ++ refss xs
end
mutual
def arefs : AV → List (Nat × List Nat)
  | .ref r p _ _ => [(r, p)]
  | .agg xs => arefss xs
  | _ => []
def arefss : List AV → List (Nat × List Nat)
  | [] => []
  | x :: xs => arefs x ++ arefss xs
end
mutual
theorem refs_er : ∀ x : CV, arefs (er x) = refs x
  | .agg xs => by simp only [er, arefs, refs]; exact refss_er xs
  | .undef _ | .bool _ | .int _ _ | .str _ | .lst _ _ _ _ _ | .fn _ _ | .ip _ _ | .at _ _ _ | .ref _ _ _ _ _ | .box _ _ _ | .tup _ => by simp [er, arefs, refs]
theorem refss_er : ∀ xs : List CV, arefss (ers xs) = refss xs
  | [] => by simp [ers, arefss, refss]
  | x :: xs => by simp only [ers, arefss, refss, refs_er x, refss_er xs]
end

mutual
def atake (S : List AV) : AV → Option (AV × List AV)
  | .ref r p lo n => match aget S r p with | some (.lst true s xs) => some (.lst true s ((xs.drop lo).take n), asetc S r p .undef) | _ => none
  | .agg xs => match atakes S xs with | some (ys, S') => some (.agg ys, S') | none => none
  | .at _ _ => none
  | .box _ => none
  | .tup _ => none
  | .fn f xs => if plAs xs then some (.fn f xs, S) else none
  | .ip x => if plA x then some (.ip x, S) else none
  | .undef => none
  | x => some (x, S)
def atakes (S : List AV) : List AV → Option (List AV × List AV)
  | [] => some ([], S)
  | x :: xs => if (arefs x).any (fun rp => hitAs rp.1 rp.2 xs) then none else
    match atake S x with
    | some (y, S1) => match atakes S1 xs with | some (ys, S2) => some (y :: ys, S2) | none => none
    | none => none
end

theorem hits_mem {r : Nat} {p : List Nat} : ∀ {xs : List CV} {u : CV}, u ∈ xs → hits r p xs = false → hit r p u = false
  | [], _, h, _ => by cases h
  | x :: xs, u, h, hh => by
    simp only [hits, Bool.or_eq_false_iff] at hh
    rcases List.mem_cons.1 h with rfl | h
    · exact hh.1
    · exact hits_mem h hh.2

section
variable {K : Nat → Prop} {w0 : World} {Z : Nat → Prop} {a : Act} {w : World}

theorem flats_take (n : Nat) (xs : List CV) : (flats (xs.take n)).Sublist (flats xs) := by
  conv => rhs; rw [← List.take_append_drop n xs]
  rw [flats_append]; exact List.sublist_append_left _ _
theorem fps_sub (lo n : Nat) (xs : List CV) : (fps ((xs.drop lo).take n)).Sublist (fps xs) := by
  refine List.Sublist.trans (l₂ := fps (xs.drop lo)) ?_ ?_
  · conv => rhs; rw [← List.take_append_drop n (xs.drop lo)]
    rw [fps_append]; exact List.sublist_append_left _ _
  · conv => rhs; rw [← List.take_append_drop lo xs]
    rw [fps_append]; exact List.sublist_append_right _ _
/-- A part of a list's cells. -/
theorem cells_sub {s : Nat} {A : Addr} {xs : List CV} (hs : A.spot = none) (hl : ∀ x ∈ xs, (flat x).length = s) (hc : CellsAt w A (flats xs)) (lo n : Nat) (hlo : lo + n ≤ xs.length) :
    CellsAt w (A.add (lo * s)) (flats ((xs.drop lo).take n)) := by
  have h1 : flats xs = flats (xs.take lo) ++ (flats ((xs.drop lo).take n) ++ flats ((xs.drop lo).drop n)) := by
    rw [← flats_append, List.take_append_drop, ← flats_append, List.take_append_drop]
  rw [h1, cellsAt_append hs, cellsAt_append (add_spot hs _)] at hc
  have : (flats (xs.take lo)).length = lo * s := by
    rw [flats_len_of (s := s) fun x hx => hl x (List.mem_of_mem_take hx)]; simp [Nat.min_eq_left (show lo ≤ xs.length by omega)]
  rw [this] at hc
  exact hc.2.1

/-- A part of an own list is an own list. -/
theorem sub_ok {s c lo n : Nat} {A : Option Addr} {xs : List CV} {v : Value} (hk : Ok w Z (.lst true s A c xs)) (hlo : lo + n ≤ xs.length) (hh : RefHdr s A c lo n v) :
    ∃ A' c', v = .slice A' n c' ∧ Ok w Z (.lst true s A' c' ((xs.drop lo).take n)) ∧ Fits (fp (.lst true s A' c' ((xs.drop lo).take n))) (fp (.lst true s A c xs)) := by
  obtain ⟨A', c', rfl, hloc, rfl, hnc, h0, h1⟩ := hh
  refine ⟨A', c - lo, rfl, ?_, ?_⟩
  · simp only [Ok] at hk ⊢
    obtain ⟨⟨a1, a2, a3⟩, b, _, d⟩ := hk
    have hlen : ((xs.drop lo).take n).length = n := by simp; omega
    refine ⟨⟨by rw [hlen]; exact hnc, ?_, fun _ hc0 => ?_⟩, fun x hx => b x (List.mem_of_mem_drop (List.mem_of_mem_take hx)), by simp, ?_⟩
    · rw [hlen]
      by_cases hn : n = 0
      · exact .inl hn
      · rcases a2 with a2 | ⟨ad, rfl, hs, hc, _⟩
        · omega
        · refine .inr ⟨ad.add (lo * s), ?_, add_spot hs _, cells_sub hs b hc lo n hlo, by simp⟩
          rw [h1 (by omega)]; rfl
    · obtain ⟨hx0, ad, cur, E, rfl, hs, hb, hm, hr⟩ := a3 rfl (by omega)
      refine ⟨hx0, ad.add (lo * s), cur, E, by rw [h1 (by omega)]; rfl, add_spot hs _, by rw [add_block]; exact hb, by omega, ?_⟩
      rw [add_eq hs]
      simp only
      have : lo * s + (c - lo) * s = c * s := by rw [← Nat.add_mul]; congr 1; omega
      omega
    · rw [okL_iff] at d ⊢
      intro x hx
      exact d x (List.mem_of_mem_drop (List.mem_of_mem_take hx))
  · refine Fits.of_sublist ?_
    simp only [fp]
    refine List.Sublist.append ?_ (fps_sub lo n xs)
    by_cases hc : c - lo = 0
    · simp [hc]
    · rw [if_neg (by simp; omega), if_neg (by simp; omega), h1 (by omega)]
      cases A <;> simp [add_block]

mutual
theorem take_good : ∀ (x : CV) (Sc L : List CV), Good K w0 Z Sc L a w → RefOk Sc x → Wf x → Ok w Z x → fp x = [] → ∀ (y' : AV) (S' : List AV), atake (ers Sc) (er x) = some (y', S') →
    ∃ y Sc', er y = y' ∧ ers Sc' = S' ∧ Good K w0 Z Sc' (y :: L) a w ∧ flat y = flat x ∧ Pl y ∧ ((∃ ys, y = .agg ys) ↔ (∃ ys, x = .agg ys)) ∧
      (∀ u, RefOk Sc u → (∀ rp ∈ refs x, hit rp.1 rp.2 u = false) → RefOk Sc' u)
  | .ref r p lo n v, Sc, L, h, hr, _, _, _, y', S', ht => by
    simp only [RefOk] at hr
    obtain ⟨x0, s, A, c, xs, l, hx, hp, hg, hlo, hh⟩ := hr
    simp only [er, atake] at ht
    have hga : aget (ers Sc) r p = some (.lst true s (ers xs)) := by
      have := er_cget (Sc := Sc) (r := r) (p := p) (y := .lst true s A c xs) (l := l) (by simp [cget, hx, hg])
      simpa [er] using this
    rw [hga] at ht
    simp only [Option.some.injEq, Prod.mk.injEq] at ht
    obtain ⟨rfl, rfl⟩ := ht
    have hokx := ((okL_cut hx).1 ((okL_append _ _).1 h.ok).1).2.1
    have hoky : Ok w Z (.lst true s A c xs) := ok_get p _ _ _ l hg (ok_root hokx).1
    have hply : Pl (.lst true s A c xs) := Pl.get p _ _ _ l hg hp
    obtain ⟨A', c', rfl, hk', hf'⟩ := sub_ok hoky hlo hh
    obtain ⟨hG, hrefs, P1, P2, e1, Q1, Q2, s1, s2, e2⟩ := h.reset (y' := .undef (.slice A xs.length c)) hx hp hg (by simp [flat]) (by simp [Ok]) (by simp [Pl, Value.oneCell'])
      ⟨fun _ => by simp [fp], fun b hb => by simp [fp] at hb⟩ (by simp)
    have hlen : ((xs.drop lo).take n).length = n := by simp; omega
    refine ⟨.lst true s A' c' ((xs.drop lo).take n), csetc Sc r p (.undef (.slice A xs.length c)), ?_, by rw [er_csetc]; simp [er], ?_, by simp [flat, hlen], ?_, by simp, ?_⟩
    · simp [er, ers_eq, List.map_take, List.map_drop]
    · have hfit : Fits (fps (csetc Sc r p (.undef (.slice A xs.length c)) ++ .lst true s A' c' ((xs.drop lo).take n) :: L)) (fps (Sc ++ L)) := by
        have e3 : fps (csetc Sc r p (.undef (.slice A xs.length c)) ++ .lst true s A' c' ((xs.drop lo).take n) :: L) =
            fps (csetc Sc r p (.undef (.slice A xs.length c))) ++ (fp (.lst true s A' c' ((xs.drop lo).take n)) ++ fps L) := by simp only [fps_append, fps]
        rw [e3, e1]
        rw [fps_append] at e2
        simp only [fp, List.nil_append] at e2
        refine Fits.trans (b := fp (.lst true s A' c' ((xs.drop lo).take n)) ++ (Q1 ++ Q2)) (Fits.of_perm ?_) ?_
        · rw [← e2, ← List.append_assoc, ← List.append_assoc]
          exact List.Perm.append_right _ List.perm_append_comm
        · refine Fits.trans (b := fp (.lst true s A' c' ((xs.drop lo).take n)) ++ (P1 ++ P2)) (Fits.of_sublist (List.Sublist.append (List.Sublist.refl _) (List.Sublist.append s1 s2))) ?_
          refine Fits.trans (b := fp (.lst true s A c xs) ++ (P1 ++ P2)) ⟨fun hnd => ?_, fun b hb => ?_⟩ (Fits.of_perm ?_)
          · rw [List.nodup_append] at hnd ⊢
            exact ⟨hf'.nodup hnd.1, hnd.2.1, fun u hu v hv => hnd.2.2 u (hf'.sub u hu) v hv⟩
          · rcases List.mem_append.1 hb with hb | hb
            · exact List.mem_append.2 (.inl (hf'.sub b hb))
            · exact List.mem_append.2 (.inr hb)
          · rw [← List.append_assoc, ← List.append_assoc]
            exact List.Perm.append_right _ List.perm_append_comm
      refine { hG with ok := ?_, nodup := hfit.nodup h.nodup, apart := fun b hb => h.apart b (hfit.sub b hb), lt := fun b hb => h.lt b (hb.imp (hfit.sub b) id), nr := ?_, kept := fun b hb => ⟨(h.kept b hb).1, fun hm => (h.kept b hb).2.1 (hfit.sub b hm), (h.kept b hb).2.2⟩ }
      · rw [okL_append]
        have := (okL_append _ _).1 hG.ok
        exact ⟨this.1, hk', this.2⟩
      · intro z hz
        rcases List.mem_cons.1 hz with rfl | hz
        · simp only [NR, Pl] at hply ⊢
          rw [plL_iff] at hply ⊢
          exact fun u hu => hply u (List.mem_of_mem_drop (List.mem_of_mem_take hu))
        · exact hG.nr z hz
    · simp only [Pl] at hply ⊢
      rw [plL_iff] at hply ⊢
      exact fun u hu => hply u (List.mem_of_mem_drop (List.mem_of_mem_take hu))
    · intro u hu hhit
      exact hrefs u hu (hhit (r, p) (by simp [refs]))
  | .agg xs, Sc, L, h, hr, hw, hk, hf, y', S', ht => by
    simp only [RefOk] at hr
    simp only [Wf] at hw
    simp only [Ok] at hk
    simp only [fp] at hf
    simp only [er, atake] at ht
    cases hts : atakes (ers Sc) (ers xs) with
    | none => simp [hts] at ht
    | some yS =>
      obtain ⟨ys', S1⟩ := yS
      simp only [hts, Option.some.injEq, Prod.mk.injEq] at ht
      obtain ⟨rfl, rfl⟩ := ht
      obtain ⟨ys, Sc', e1, e2, hG, hfl, hpl, hrf⟩ := takes_good xs Sc L h hr hw hk hf ys' S1 hts
      refine ⟨.agg ys, Sc', by simp [er, e1], e2, ?_, by simp [flat, hfl], by simpa only [Pl] using hpl, by simp, fun u hu hh => hrf u hu (by simpa only [refs] using hh)⟩
      refine hG.beside ?_ ?_ ?_
      · have := (okL_append _ _).1 ((okL_append _ _).1 hG.ok).2
        exact ⟨by simpa only [Ok] using this.1, this.2⟩
      · simp only [fps, fp, fps_append]; exact Fits.refl _
      · intro z hz
        rcases List.mem_cons.1 hz with rfl | hz
        · simpa only [NR, Pl] using hpl
        · exact hG.nr z (by simp [hz])
  | .at _ _ _, Sc, L, _, _, _, _, _, y', S', ht => by simp [er, atake] at ht
  | .box _ _ _, Sc, L, _, _, _, _, _, y', S', ht => by simp [er, atake] at ht
  | .tup _, Sc, L, _, _, _, _, _, y', S', ht => by simp [er, atake] at ht
  | .fn f xs, Sc, L, h, hr, hw, hk, hf, y', S', ht => by
    simp only [er, atake] at ht
    split at ht
    case isFalse => cases ht
    rename_i hpl
    simp only [Option.some.injEq, Prod.mk.injEq] at ht
    obtain ⟨rfl, rfl⟩ := ht
    have hP : Pl (.fn f xs) := by simpa only [Pl] using (plL_er xs) hpl
    exact ⟨.fn f xs, Sc, by simp [er], rfl, h.add hk hf hP.nr, rfl, hP, by simp, fun u hu _ => hu⟩
  | .undef _, Sc, L, _, _, _, _, _, y', S', ht => by simp [er, atake] at ht
  | .bool v, Sc, L, h, _, _, hk, hf, y', S', ht => by
    simp only [er, atake, Option.some.injEq, Prod.mk.injEq] at ht
    obtain ⟨rfl, rfl⟩ := ht
    exact ⟨.bool v, Sc, by simp [er], rfl, h.add hk hf (by simp [NR, Pl]), rfl, by simp [Pl], by simp, fun u hu _ => hu⟩
  | .int k v, Sc, L, h, _, _, hk, hf, y', S', ht => by
    simp only [er, atake, Option.some.injEq, Prod.mk.injEq] at ht
    obtain ⟨rfl, rfl⟩ := ht
    exact ⟨.int k v, Sc, by simp [er], rfl, h.add hk hf (by simp [NR, Pl]), rfl, by simp [Pl], by simp, fun u hu _ => hu⟩
  | .str v, Sc, L, h, _, _, hk, hf, y', S', ht => by
    simp only [er, atake, Option.some.injEq, Prod.mk.injEq] at ht
    obtain ⟨rfl, rfl⟩ := ht
    exact ⟨.str v, Sc, by simp [er], rfl, h.add hk hf (by simp [NR, Pl]), rfl, by simp [Pl], by simp, fun u hu _ => hu⟩
  | .lst o s A c xs, Sc, L, h, _, hw, hk, hf, y', S', ht => by
    simp only [er, atake, Option.some.injEq, Prod.mk.injEq] at ht
    obtain ⟨rfl, rfl⟩ := ht
    have hP : Pl (.lst o s A c xs) := by simpa only [Pl, Wf] using hw
    exact ⟨.lst o s A c xs, Sc, by simp [er], rfl, h.add hk hf hP.nr, rfl, hP, by simp, fun u hu _ => hu⟩
  | .ip b x, Sc, L, h, _, hw, hk, hf, y', S', ht => by
    simp only [er, atake] at ht
    split at ht
    case isFalse => cases ht
    rename_i hpl
    simp only [Option.some.injEq, Prod.mk.injEq] at ht
    obtain ⟨rfl, rfl⟩ := ht
    have hP : Pl (.ip b x) := by simpa only [Pl] using pl_er x hpl
    exact ⟨.ip b x, Sc, by simp [er], rfl, h.add hk hf hP.nr, rfl, hP, by simp, fun u hu _ => hu⟩
theorem takes_good : ∀ (xs : List CV) (Sc L : List CV), Good K w0 Z Sc L a w → RefOkL Sc xs → WfL xs → OkL w Z xs → fps xs = [] → ∀ (ys' : List AV) (S' : List AV), atakes (ers Sc) (ers xs) = some (ys', S') →
    ∃ ys Sc', ers ys = ys' ∧ ers Sc' = S' ∧ Good K w0 Z Sc' (ys ++ L) a w ∧ flats ys = flats xs ∧ PlL ys ∧
      (∀ u, RefOk Sc u → (∀ rp ∈ refss xs, hit rp.1 rp.2 u = false) → RefOk Sc' u)
  | [], Sc, L, h, _, _, _, _, ys', S', ht => by
    simp only [ers, atakes, Option.some.injEq, Prod.mk.injEq] at ht
    obtain ⟨rfl, rfl⟩ := ht
    exact ⟨[], Sc, by simp [ers], rfl, h, rfl, by simp [PlL], fun u hu _ => hu⟩
  | x :: xs, Sc, L, h, hr, hw, hk, hf, ys', S', ht => by
    simp only [RefOkL] at hr
    simp only [WfL] at hw
    simp only [OkL] at hk
    simp only [fps, List.append_eq_nil_iff] at hf
    simp only [ers, atakes] at ht
    split at ht
    · cases ht
    rename_i hno
    have hno' : ∀ rp ∈ refs x, hits rp.1 rp.2 xs = false := by
      intro rp hrp
      simp only [refs_er, List.any_eq_true, not_exists, not_and, hits_er] at hno
      simpa using hno rp hrp
    cases htx : atake (ers Sc) (er x) with
    | none => simp [htx] at ht
    | some yS =>
      obtain ⟨y', S1⟩ := yS
      simp only [htx] at ht
      obtain ⟨y, Sc1, e1, e2, hG, hfl, hpl, hag, hrf⟩ := take_good x Sc L h hr.1 hw.1 hk.1 hf.1 y' S1 htx
      have hr2 : RefOkL Sc1 xs := by
        rw [refOkL_iff] at hr ⊢
        intro u hu
        refine hrf u (hr.2 u hu) fun rp hrp => ?_
        exact hits_mem hu (hno' rp hrp)
      rw [← e2] at ht
      cases hts : atakes (ers Sc1) (ers xs) with
      | none => simp [hts] at ht
      | some yS2 =>
        obtain ⟨ys1, S2⟩ := yS2
        simp only [hts, Option.some.injEq, Prod.mk.injEq] at ht
        obtain ⟨rfl, rfl⟩ := ht
        obtain ⟨ys, Sc2, f1, f2, hG2, hfl2, hpl2, hrf2⟩ := takes_good xs Sc1 (y :: L) hG hr2 hw.2 hk.2 hf.2 ys1 S2 hts
        refine ⟨y :: ys, Sc2, by simp [ers, e1, f1], f2, ?_, by simp [flats, hfl, hfl2], by simp [PlL, hpl, hpl2], ?_⟩
        · refine hG2.beside ?_ (Fits.of_perm ?_) ?_
          · have := ((okL_append _ _).1 hG2.ok).2
            rw [okL_iff] at this ⊢
            intro z hz; exact this z (by simp at hz ⊢; rcases hz with h | h | h <;> simp [h])
          · simp only [fps_append, fps, List.cons_append]
            rw [← List.append_assoc, ← List.append_assoc]
            exact List.Perm.append_right _ List.perm_append_comm
          · intro z hz; exact hG2.nr z (by simp at hz ⊢; rcases hz with h | h | h <;> simp [h])
        · intro u hu hh
          refine hrf2 u (hrf u hu fun rp hrp => hh rp (by simp [refss, hrp])) fun rp hrp => hh rp (by simp [refss, hrp])
end
end
end Go.Bv

/-! Operations that read and compute: their plain meaning on by-value slots, and that the model's run agrees. -/
namespace Go.Bv
open Go Go.RowKit
set_option linter.unusedSimpArgs false
set_option linter.unusedVariables false

inductive Kd where
  | int (k : IntKind) | bool | str | sl (E : Nat) | st (fs : List Nat) | ptr | no
  deriving DecidableEq, Repr
structure Tab where
  kind : Nat → Kd
  size : Nat → Nat
  bytes : Nat → Nat
  off : Nat → Nat → Nat
  zero : Nat → Option AV

mutual
/-- A zero value's cells. -/
def zcells : AV → List Value
  | .bool b => [.bool b]
  | .int k n => [.int k n]
  | .str s => [.string s]
  | .lst _ _ _ => [.slice none 0 0]
  | .agg xs => zcellss xs
  | _ => []
def zcellss : List AV → List Value
  | [] => []
  | x :: xs => zcells x ++ zcellss xs
end
mutual
/-- A zero value: numbers, flags, texts, empty lists, structs of these. -/
def zplain : AV → Bool
  | .bool _ => true
  | .int _ _ => true
  | .str _ => true
  | .lst true _ [] => true
  | .agg xs => zplains xs
  | _ => false
def zplains : List AV → Bool
  | [] => true
  | x :: xs => zplain x && zplains xs
end

/-- The table says of the program's types what is so. -/
structure TabOk (P : Program) (Γ : Tab) : Prop where
  size : ∀ T, Γ.kind T ≠ .no → ∃ i, P.info? T = some i ∧ i.size = Γ.size T ∧ i.bytes = Γ.bytes T
  int : ∀ T k, Γ.kind T = .int k → P.underlying T = some (.int k)
  bool : ∀ T, Γ.kind T = .bool → P.underlying T = some .bool
  str : ∀ T, Γ.kind T = .str → P.underlying T = some .string
  sl : ∀ T E, Γ.kind T = .sl E → P.underlying T = some (.slice E)
  st : ∀ T fs, Γ.kind T = .st fs → ∃ F, P.underlying T = some (.struct F) ∧ F.size = fs.length ∧ ∀ f t, fs[f]? = some t → ∃ fd, F[f]? = some fd ∧ fd.type = t ∧ fd.offset = Γ.off T f
  ptr : ∀ T, Γ.kind T = .ptr → ∃ E, P.underlying T = some (.pointer E)
  zero : ∀ T z, Γ.zero T = some z → zplain z = true ∧ ∃ i v, P.info? T = some i ∧ i.zero = some v ∧ v.cells.toList = zcells z ∧ (v.cells.size = i.size)
  follows : P.follows .mixedOrders = true

def fitsA (Γ : Tab) (T : Nat) (y : AV) : Bool :=
  match Γ.kind T, y with
  | .st _, .agg xs => alens xs == Γ.size T
  | .st _, _ => false
  | .no, _ => false
  | _, .agg _ => false
  | _, .tup _ => false
  | _, _ => true
def fieldOk (Γ : Tab) (T f n : Nat) : Bool :=
  match Γ.kind T with
  | .st fs => match fs[f]? with | some t => Γ.kind t != .no && Γ.size t != 0 && Γ.off T f == n | none => false
  | _ => false

def intBin (op : BinOp) (k : IntKind) (a b : Int) : Option AV :=
  match op with
  | .add => some (.int k (k.wrap (a + b)))
  | .sub => some (.int k (k.wrap (a - b)))
  | .mul => some (.int k (k.wrap (a * b)))
  | .quo => if b = 0 then none else some (.int k (k.wrap (a.tdiv b)))
  | .rem => if b = 0 then none else some (.int k (a.tmod b))
  | .and => some (.int k (k.wrap (BitVec.ofInt k.bits a &&& BitVec.ofInt k.bits b).toNat))
  | .xor => some (.int k (k.wrap (BitVec.ofInt k.bits a ^^^ BitVec.ofInt k.bits b).toNat))
  | .eql => some (.bool (a == b))
  | .neq => some (.bool (a != b))
  | .lss => some (.bool (a < b))
  | .leq => some (.bool (a ≤ b))
  | .gtr => some (.bool (a > b))
  | .geq => some (.bool (a ≥ b))
  | _ => none
def strBin (op : BinOp) (a b : ByteArray) : Option AV :=
  match op with
  | .add => if a.size + b.size ≤ 4611686018427387904 then some (.str (a ++ b)) else none
  | .eql => some (.bool (a.toList == b.toList))
  | .neq => some (.bool (!(a.toList == b.toList)))
  | _ => none
def binA (Γ : Tab) (op : BinOp) (T : Nat) (x y : AV) : Option AV :=
  match x, y with
  | .int k a, .int k' b =>
    if op = .shr then (if 0 ≤ b then some (.int k (a.fdiv (2 ^ (min b.toNat k.bits)))) else none)
    else if k = k' then intBin op k a b else none
  | .str a, .str b => strBin op a b
  | .bool a, .bool b => if Γ.kind T = .bool then (match op with | .eql => some (.bool (a == b)) | .neq => some (.bool (!(a == b))) | _ => none) else none
  | _, _ => none
def unA (op : UnOp) (x : AV) : Option AV :=
  match op, x with
  | .not, .bool b => some (.bool (!b))
  | .neg, .int k n => some (.int k (k.wrap (0 - n)))
  | _, _ => none
def convA (Γ : Tab) (d : Nat) (x : AV) : Option AV :=
  match Γ.kind d, x with
  | .int k, .int _ n => some (.int k (k.wrap n))
  | .str, .int _ n => some (.str (Utf8.encode n))
  | .str, .str s => some (.str s)
  | _, _ => none
/-- A bound of a slice expression. -/
def bndA (S : List AV) (x : Option Operand) (dflt top : Nat) : Option Nat :=
  match x with
  | none => some dflt
  | some x => match ard S x with
    | some (.int _ n) => if 0 ≤ n ∧ n ≤ top then some n.toNat else none
    | _ => none
def minA : List AV → Option AV
  | [.int k a, .int _ b] => some (.int k (if b < a then b else a))
  | [.int k a, .int _ b, .int _ c] => some (.int k (if c < (if b < a then b else a) then c else (if b < a then b else a)))
  | _ => none
def maxA : List AV → Option AV
  | [.int k a, .int _ b] => some (.int k (if b > a then b else a))
  | [.int k a, .int _ b, .int _ c] => some (.int k (if c > (if b > a then b else a) then c else (if b > a then b else a)))
  | _ => none
def lenA (S : List AV) (x : AV) : Option AV :=
  match x with
  | .str s => some (.int .i64 s.size)
  | .lst _ _ xs => some (.int .i64 xs.length)
  | .ref _ _ _ n => some (.int .i64 n)
  | _ => none
def ards (S : List AV) : List Operand → Option (List AV)
  | [] => some []
  | x :: xs => match ard S x with | some v => (match ards S xs with | some vs => some (v :: vs) | none => none) | none => none

/-- What a quiet operation yields. -/
def qv (Γ : Tab) (S : List AV) (o : Oper) : Option AV :=
  match o.op with
  | .move x => ard S x
  | .pick c x y => match ard S c with | some (.bool t) => if t then ard S x else ard S y | _ => none
  | .load T x => match ard S x with
    | some (.at r p) => (match aget S r p with | some y => if fitsA Γ T y then some (aview r p y) else none | none => none)
    | some (.ip y) => if fitsA Γ T y then some y else none
    | _ => none
  | .fieldAddr T x f => match ard S x with
    | some (.at r p) => (match aget S r p with | some (.agg xs) => if f < xs.length ∧ fieldOk Γ T f (alens (xs.take f)) = true then some (.at r (p ++ [f])) else none | _ => none)
    | some (.ip (.agg xs)) => (match xs[f]? with | some y => if fieldOk Γ T f (alens (xs.take f)) then some (.ip y) else none | none => none)
    | _ => none
  | .indexAddr T x i => match Γ.kind T, ard S i with
    | .sl E, some (.int _ n) => match ard S x with
      | some (.ref r p lo m) => if 0 ≤ n ∧ n < m then
          (match aget S r (p ++ [lo + n.toNat]) with | some y => if Γ.kind E ≠ .no ∧ alen y = Γ.size E then some (.at r (p ++ [lo + n.toNat])) else none | none => none)
        else none
      | some (.lst false _ xs) => if 0 ≤ n then (match xs[n.toNat]? with | some y => if Γ.kind E ≠ .no ∧ alen y = Γ.size E then some (.ip y) else none | none => none) else none
      | _ => none
    | _, _ => none
  | .field T x f => match ard S x with
    | some (.agg xs) => (match Γ.kind T, xs[f]? with
      | .st fs, some y => (match fs[f]? with | some t => if fieldOk Γ T f (alens (xs.take f)) = true ∧ fitsA Γ t y = true then some y else none | none => none)
      | _, _ => none)
    | _ => none
  | .index T x i => match Γ.kind T, ard S x, ard S i with
    | .str, some (.str s), some (.int _ n) => if 0 ≤ n then (match s[n.toNat]? with | some b => some (.int .u8 b.toNat) | none => none) else none
    | _, _, _ => none
  | .binOp op T x y _ => match ard S x, ard S y with | some a, some b => binA Γ op T a b | _, _ => none
  | .unOp op _ x => match ard S x with | some a => unA op a | none => none
  | .convert s d x => match ard S x with | some a => if Γ.kind s ≠ .no then convA Γ d a else none | none => none
  | .slice T x lo hi none => match Γ.kind T, ard S x with
    | .str, some (.str s) => (match bndA S hi s.size s.size with
      | some h => (match bndA S lo 0 h with | some l => some (.str (s.extract l h)) | none => none)
      | none => none)
    | .sl E, some (.lst false s xs) => if Γ.kind E = .no ∨ xs.all (fun y => alen y == Γ.size E) = false then none else (match bndA S hi xs.length xs.length with
      | some h => (match bndA S lo 0 h with | some l => some (.lst false s ((xs.drop l).take (h - l))) | none => none)
      | none => none)
    | .sl E, some (.ref r p l0 m) => if Γ.kind E = .no then none else (match bndA S hi m m with
      | some h => (match bndA S lo 0 h with
        | some l => (match aget S r p with | some (.lst true _ xs) => if xs.all (fun y => alen y == Γ.size E) then some (.ref r p (l0 + l) (h - l)) else none | _ => none)
        | none => none)
      | none => none)
    | _, _ => none
  | .makeFunc (.func f) first caps => if first.size = 0 then (match ards S caps.toList with | some vs => if vs.all (fun | .agg _ => false | _ => true) then some (.fn f vs) else none | none => none) else none
  | .nilCheck x => match ard S x with
    | some (.at r p) => some (.at r p)
    | some (.ip y) => some (.ip y)
    | some (.fn f vs) => some (.fn f vs)
    | _ => none
  | .call { callee := .builtin b, args, argTypes } => match ards S args.toList with
    | some vs => match b with
      | .len => (match vs, argTypes[0]? with
        | [x], some T => (match Γ.kind T, x with
          | .str, .str s => some (.int .i64 s.size)
          | .sl _, .lst _ _ xs => some (.int .i64 xs.length)
          | .sl _, .ref _ _ _ n => some (.int .i64 n)
          | _, _ => none)
        | _, _ => none)
      | .min => minA vs
      | .max => maxA vs
      | _ => none
    | none => none
  | _ => none
end Go.Bv

/-! The quiet operations: the model's run agrees with their plain meaning. -/
namespace Go.Bv
open Go Go.RowKit
set_option linter.unusedSimpArgs false
set_option linter.unusedVariables false
section
variable {K : Nat → Prop} {w0 : World} {Z : Nat → Prop} {Sc L : List CV} {a : Act} {w : World} {P : Program} {Γ : Tab}

theorem er_at {c : CV} {r : Nat} {p : List Nat} (h : er c = .at r p) : ∃ ad, c = .at r p ad := by
  cases c <;> simp [er] at h; obtain ⟨rfl, rfl⟩ := h; exact ⟨_, rfl⟩
theorem ip_sorted {ad : Addr} {z : CV} (h : Pl (.ip ad z) ∨ NoOwn (.ip ad z)) : Pl z ∨ NoOwn z := by
  simp only [Pl, NoOwn] at h
  rcases h with h | h
  · exact .inl h
  · exact h
theorem er_ip {c : CV} {y : AV} (h : er c = .ip y) : ∃ ad z, c = .ip ad z ∧ er z = y := by
  cases c <;> simp [er] at h; exact ⟨_, _, rfl, h⟩
theorem er_int {c : CV} {k : IntKind} {n : Int} (h : er c = .int k n) : c = .int k n := by
  cases c <;> simp [er] at h; obtain ⟨rfl, rfl⟩ := h; rfl
theorem er_bool {c : CV} {b : Bool} (h : er c = .bool b) : c = .bool b := by
  cases c <;> simp [er] at h; subst h; rfl
theorem er_str {c : CV} {s : ByteArray} (h : er c = .str s) : c = .str s := by
  cases c <;> simp [er] at h; subst h; rfl
theorem er_agg {c : CV} {ys : List AV} (h : er c = .agg ys) : ∃ xs, c = .agg xs ∧ ers xs = ys := by
  cases c <;> simp [er] at h; exact ⟨_, rfl, h⟩
theorem er_lst {c : CV} {o : Bool} {s : Nat} {ys : List AV} (h : er c = .lst o s ys) : ∃ A cap xs, c = .lst o s A cap xs ∧ ers xs = ys := by
  cases c <;> simp [er] at h; obtain ⟨rfl, rfl, rfl⟩ := h; exact ⟨_, _, _, rfl, rfl⟩
theorem er_ref {c : CV} {r : Nat} {p : List Nat} {lo n : Nat} (h : er c = .ref r p lo n) : ∃ v, c = .ref r p lo n v := by
  cases c <;> simp [er] at h; obtain ⟨rfl, rfl, rfl, rfl⟩ := h; exact ⟨_, rfl⟩
theorem er_fn {c : CV} {f : Nat} {ys : List AV} (h : er c = .fn f ys) : ∃ xs, c = .fn f xs ∧ ers xs = ys := by
  cases c <;> simp [er] at h; obtain ⟨rfl, rfl⟩ := h; exact ⟨_, rfl, rfl⟩
theorem er_box {c : CV} {y : AV} (h : er c = .box y) : ∃ b ty z, c = .box b ty z ∧ er z = y := by
  cases c <;> simp [er] at h; exact ⟨_, _, _, rfl, h⟩

/-- What lies where a pointer into a slot points. -/
theorem Good.node (h : Good K w0 Z Sc L a w) {r : Nat} {p : List Nat} {ad : Addr} (hr : RefOk Sc (.at r p ad)) :
    ∃ x y, Sc[r]? = some x ∧ Pl (rootC x).1 ∧ cgetN (rootC x).1 (rootC x).2 p = some (y, some ad) ∧ Ok w Z y ∧ Pl y ∧ ad.spot = none ∧ CellsAt w ad (flat y) ∧ aget (ers Sc) r p = some (er y) := by
  simp only [RefOk] at hr
  obtain ⟨x, y, h1, h2, h3⟩ := hr
  have hok := ((okL_cut h1).1 ((okL_append _ _).1 h.ok).1).2.1
  obtain ⟨hs, hc⟩ := cells_get p _ _ y ad h3 (ok_root hok).1 (ok_root hok).2
  exact ⟨x, y, h1, h2, h3, ok_get p _ _ _ _ h3 (ok_root hok).1, Pl.get p _ _ _ _ h3 h2, hs, hc, er_cget (l := some ad) (by simp [cget, h1, h3])⟩

theorem fits_not_tup {T : Nat} {y : CV} (h : fitsA Γ T (er y) = true) : ∀ xs, y ≠ .tup xs := by
  rintro xs rfl
  simp only [fitsA, er] at h
  split at h <;> simp_all

theorem run_isAgg (hT : TabOk P Γ) {T : Nat} (hk : Γ.kind T ≠ .no) (w : World) : (isAgg T).run P w = .ok (match Γ.kind T with | .st _ => true | _ => false) w := by
  unfold isAgg
  cases e : Γ.kind T with
  | int k => simp [run_underlying (hT.int T k e)]
  | bool => simp [run_underlying (hT.bool T e)]
  | str => simp [run_underlying (hT.str T e)]
  | sl E => simp [run_underlying (hT.sl T E e)]
  | st fs => obtain ⟨F, h1, _⟩ := hT.st T fs e; simp [run_underlying h1]
  | ptr => obtain ⟨E, h1⟩ := hT.ptr T e; simp [run_underlying h1]
  | no => exact absurd e hk

theorem run_size (hT : TabOk P Γ) {T : Nat} (hk : Γ.kind T ≠ .no) (w : World) : (sizeOf T).run P w = .ok (Γ.size T) w := by
  obtain ⟨i, h1, h2, _⟩ := hT.size T hk
  simp [sizeOf, typeInfo, h1, h2]

theorem fits_kind {T : Nat} {y : AV} (h : fitsA Γ T y = true) : Γ.kind T ≠ .no := by
  intro e
  simp only [fitsA, e] at h
  cases h

/-- A load of what fits. -/
theorem run_load_fit (hT : TabOk P Γ) {T : Nat} {y : CV} {ad : Addr} (hf : fitsA Γ T (er y) = true) (hc : CellsAt w ad (flat y)) : (loadVar T ad).run P w = .ok (val y) w := by
  have hk := fits_kind hf
  have hnt := fits_not_tup hf
  unfold loadVar
  rw [Sem.run_bind, run_isAgg hT hk]
  simp only [Result.andThen_ok]
  by_cases hagg : ∃ xs, y = .agg xs
  · obtain ⟨xs, rfl⟩ := hagg
    simp only [er, fitsA] at hf
    cases e : Γ.kind T with
    | st fs =>
      simp only [e, beq_iff_eq] at hf
      simp only [Sem.run_bind, run_size hT hk, Result.andThen_ok, if_true]
      rw [alens_er] at hf
      have := run_loadCells_list (P := P) w ad (flats xs) (by simpa [CellsAt, flat] using hc)
      rw [← hf, this]
      simp [val, val1]
    | _ => simp [e] at hf
  · have hfl := flat_one (x := y) fun xs e => hagg ⟨xs, e⟩
    have h0 : w.cell? ad = some (val1 y) := by
      have := hc 0 (val1 y) (by simp [hfl])
      simpa [Addr.add] using this
    have hv : val y = val1 y := by cases y <;> first | rfl | exact absurd rfl (hnt _)
    cases e : Γ.kind T with
    | st fs =>
      exfalso
      cases y <;> simp [fitsA, e, er] at hf
      exact hagg ⟨_, rfl⟩
    | _ => simp [h0, hv]

theorem Rd.lst_false {s : Nat} {A : Option Addr} {c : Nat} {xs : List CV} (h : Ok w Z (.lst false s A c xs)) (hp : PlL xs) : Rd w Z Sc (.lst false s A c xs) :=
  ⟨by simp [RefOk], by simpa only [Wf] using hp, h, by have h' := h; simp only [Ok] at h'; have := h'.2.2.1 (by trivial); simp [Bv.fp, this], .inl (by simpa only [Pl] using hp)⟩

theorem load_sound (hT : TabOk P Γ) (h : Good K w0 Z Sc L a w) {o : Oper} {T : Nat} {x : Operand} (ho : o.op = .load T x) {v : AV} (hv : qv Γ (ers Sc) o = some v) :
    ∃ c, er c = v ∧ (execOp a.eval o).run P w = .ok (.value (val c)) w ∧ Rd w Z Sc c ∧ (∀ xs, c ≠ .tup xs) := by
  simp only [qv, ho] at hv
  cases hx : ard (ers Sc) x with
  | none => simp [hx] at hv
  | some u =>
    obtain ⟨c, hc, hval, hrd, _⟩ := h.rd hx
    subst hc
    simp only [hx] at hv
    unfold execOp
    simp only [ho]
    rw [← hval]
    cases hu : er c <;> simp only [hu] at hv <;> try (cases hv; done)
    · rename_i y
      obtain ⟨ad, z, rfl, rfl⟩ := er_ip hu
      split at hv
      case isFalse => cases hv
      rename_i hf
      simp only [Option.some.injEq] at hv
      subst hv
      have hk := hrd.ok
      simp only [Ok] at hk
      have hw := hrd.wf
      simp only [Wf] at hw
      have hr := hrd.refOk
      simp only [RefOk] at hr
      refine ⟨z, rfl, ?_, ⟨hr, hw, hk.2.2.2.2, hk.2.2.2.1, ip_sorted hrd.sorted⟩, fits_not_tup hf⟩
      simp [val, val1, flat, Instr.loadAt, Instr.sureAddr, run_load_fit hT hf hk.2.2.1]
    · rename_i r p
      obtain ⟨ad, rfl⟩ := er_at hu
      obtain ⟨x0, y, h1, h2, h3, h4, h5, h6, h7, h8⟩ := h.node hrd.refOk
      simp only [h8] at hv
      split at hv
      case isFalse => cases hv
      rename_i hf
      simp only [Option.some.injEq] at hv
      subst hv
      have hno := view_noOwn r y p h5
      have hk := view_ok (w := w) (Z := Z) r y p h4
      refine ⟨cview r p y, er_view _ _ _, ?_, ⟨view_refOk h1 h2 y p _ h3 h5 h4, view_wf r y p h5, hk, hno.fp _ hk, .inr hno⟩, view_not_tup (fits_not_tup hf)⟩
      rw [val_view _ _ _ (fits_not_tup hf)]
      simp [val, val1, flat, Instr.loadAt, Instr.sureAddr, run_load_fit hT hf h7]

theorem fieldOk_run (hT : TabOk P Γ) {T f n : Nat} (hf : fieldOk Γ T f n = true) : ∃ F fd i, P.underlying T = some (.struct F) ∧ F[f]? = some fd ∧ fd.offset = n ∧ P.info? fd.type = some i ∧ i.size ≠ 0 ∧ i.size = Γ.size fd.type := by
  unfold fieldOk at hf
  split at hf
  case h_2 => cases hf
  rename_i fs hk
  split at hf
  case h_2 => cases hf
  rename_i t ht
  simp only [Bool.and_eq_true, bne_iff_ne, ne_eq, beq_iff_eq] at hf
  obtain ⟨⟨h1, h2⟩, h3⟩ := hf
  obtain ⟨F, hF, _, hall⟩ := hT.st T fs hk
  obtain ⟨fd, g1, g2, g3⟩ := hall f t ht
  obtain ⟨i, i1, i2, _⟩ := hT.size t h1
  exact ⟨F, fd, i, hF, g1, by rw [g3, h3], by rw [g2]; exact i1, by rw [i2]; exact h2, by rw [g2]; exact i2⟩

theorem run_fieldAt (hT : TabOk P Γ) {T f n : Nat} (hf : fieldOk Γ T f n = true) (ad : Addr) : (Instr.fieldAt T (.pointer (some ad)) f).run P w = .ok (.pointer (some (ad.add n))) w := by
  obtain ⟨F, fd, i, h1, h2, h3, h4, h5, _⟩ := fieldOk_run hT hf
  simp [Instr.fieldAt, run_underlying h1, h2, Instr.sureAddr, fieldPlace, sizeOf, typeInfo, h4, h5, h3]

theorem fieldAddr_sound (hT : TabOk P Γ) (h : Good K w0 Z Sc L a w) {o : Oper} {T f : Nat} {x : Operand} (ho : o.op = .fieldAddr T x f) {v : AV} (hv : qv Γ (ers Sc) o = some v) :
    ∃ c, er c = v ∧ (execOp a.eval o).run P w = .ok (.value (val c)) w ∧ Rd w Z Sc c ∧ (∀ xs, c ≠ .tup xs) := by
  simp only [qv, ho] at hv
  cases hx : ard (ers Sc) x with
  | none => simp [hx] at hv
  | some u =>
    obtain ⟨c, hc, hval, hrd, _⟩ := h.rd hx
    subst hc
    simp only [hx] at hv
    unfold execOp
    simp only [ho]
    rw [← hval]
    cases hu : er c <;> simp only [hu] at hv <;> try (cases hv; done)
    · rename_i y
      obtain ⟨ad, z, rfl, rfl⟩ := er_ip hu
      cases hz : er z <;> simp only [hz] at hv <;> try (cases hv; done)
      rename_i ys
      obtain ⟨zs, rfl, rfl⟩ := er_agg hz
      cases hf0 : (ers zs)[f]? with
      | none => simp [hf0] at hv
      | some y1 =>
        simp only [hf0] at hv
        split at hv
        case isFalse => cases hv
        rename_i hf
        simp only [Option.some.injEq] at hv
        subst hv
        rw [ers_eq, List.getElem?_map] at hf0
        cases hzf : zs[f]? with
        | none => simp [hzf] at hf0
        | some zf =>
          simp only [hzf, Option.map_some, Option.some.injEq] at hf0
          have hk := hrd.ok
          simp only [Ok] at hk
          obtain ⟨k1, k2, k3, k4, k5⟩ := hk
          have hw := hrd.wf
          simp only [Wf] at hw
          have hr := hrd.refOk
          simp only [RefOk] at hr
          have hlen : alens ((ers zs).take f) = (flats (zs.take f)).length := by rw [ers_eq, ← List.map_take, ← ers_eq, alens_er]
          have hmf := List.mem_of_getElem? hzf
          have hso : Pl zf ∨ NoOwn zf := by
            rcases ip_sorted hrd.sorted with h1 | h1
            · simp only [Pl] at h1; exact .inl ((plL_iff zs).1 h1 zf hmf)
            · simp only [NoOwn] at h1; exact .inr ((noOwnL_iff zs).1 h1 zf hmf)
          simp only [flat] at k3
          rw [flats_cut hzf, cellsAt_append k1, cellsAt_append (add_spot k1 _)] at k3
          have hfp0 : fp zf = [] := by
            simp only [fp] at k4
            rw [fps_cut hzf] at k4
            simp at k4; exact k4.2.1
          refine ⟨.ip (ad.add (flats (zs.take f)).length) zf, by simp [er, hf0], ?_, ⟨by simpa only [RefOk] using (refOkL_iff zs).1 hr zf hmf, by simpa only [Wf] using (wfL_iff zs).1 hw zf hmf, ?_, by simp [fp], .inr (by simpa only [NoOwn] using hso)⟩, by simp⟩
          · rw [hlen] at hf
            simp [val, val1, flat, run_fieldAt hT hf]
          · simp only [Ok]
            exact ⟨add_spot k1 _, by rw [add_block]; exact k2, k3.2.1, hfp0, ((okL_cut hzf).1 k5).2.1⟩
    · rename_i r p
      obtain ⟨ad, rfl⟩ := er_at hu
      obtain ⟨x0, y, h1, h2, h3, h4, h5, h6, h7, h8⟩ := h.node hrd.refOk
      simp only [h8] at hv
      cases hy : er y <;> simp only [hy] at hv <;> try (cases hv; done)
      rename_i ys
      obtain ⟨zs, rfl, rfl⟩ := er_agg hy
      split at hv
      case isFalse => cases hv
      rename_i hf
      simp only [Option.some.injEq] at hv
      subst hv
      have hlen : alens ((ers zs).take f) = (flats (zs.take f)).length := by rw [ers_eq, ← List.map_take, ← ers_eq, alens_er]
      rw [hlen] at hf
      obtain ⟨hlt, hf⟩ := hf
      have hlt' : f < zs.length := by simpa [ers_eq] using hlt
      refine ⟨.at r (p ++ [f]) (ad.add (flats (zs.take f)).length), by simp [er], by simp [val, val1, flat, run_fieldAt hT hf], ⟨?_, by simp [Wf], by simp [Ok], by simp [fp], .inr (by simp [NoOwn])⟩, by simp⟩
      simp only [RefOk]
      refine ⟨x0, zs[f], h1, h2, ?_⟩
      rw [get_append, h3]
      simp [cgetN, List.getElem?_eq_getElem hlt']
end
end Go.Bv

/-! The other quiet operations. -/
namespace Go.Bv
open Go Go.RowKit
set_option linter.unusedSimpArgs false
set_option linter.unusedVariables false
section
variable {K : Nat → Prop} {w0 : World} {Z : Nat → Prop} {Sc L : List CV} {a : Act} {w : World} {P : Program} {Γ : Tab}

/-- What is to be shown of a quiet operation. -/
def QS (P : Program) (a : Act) (w : World) (Z : Nat → Prop) (Sc : List CV) (o : Oper) (v : AV) : Prop :=
  ∃ c, er c = v ∧ (execOp a.eval o).run P w = .ok (.value (val c)) w ∧ Rd w Z Sc c ∧ (∀ xs, c ≠ .tup xs)

theorem rd_scalar {c : CV} (hp : Pl c) (hf : fp c = []) (hk : Ok w Z c) : Rd w Z Sc c := ⟨Pl.refOk _ hp, Pl.wf _ hp, hk, hf, .inl hp⟩
theorem rd_int (k : IntKind) (n : Int) : Rd w Z Sc (.int k n) := rd_scalar (by simp [Pl]) (by simp [fp]) (by simp [Ok])
theorem rd_bool (b : Bool) : Rd w Z Sc (.bool b) := rd_scalar (by simp [Pl]) (by simp [fp]) (by simp [Ok])
theorem rd_str (s : ByteArray) : Rd w Z Sc (.str s) := rd_scalar (by simp [Pl]) (by simp [fp]) (by simp [Ok])
theorem val_int (k : IntKind) (n : Int) : val (.int k n) = .int k n := rfl
theorem val_bool (b : Bool) : val (.bool b) = .bool b := rfl
theorem val_agg (xs : List CV) : val (.agg xs) = .agg (flats xs).toArray := rfl
theorem val_str (s : ByteArray) : val (.str s) = .string s := rfl

theorem indexAddr_sound (hT : TabOk P Γ) (h : Good K w0 Z Sc L a w) {o : Oper} {T : Nat} {x i : Operand} (ho : o.op = .indexAddr T x i) {v : AV} (hv : qv Γ (ers Sc) o = some v) : QS P a w Z Sc o v := by
  simp only [qv, ho] at hv
  cases hk : Γ.kind T <;> simp only [hk] at hv <;> try (cases hv; done)
  rename_i E
  cases hi : ard (ers Sc) i with
  | none => simp [hi] at hv
  | some iv =>
    obtain ⟨ci, hci, hival, _, _⟩ := h.rd hi
    simp only [hi] at hv
    cases iv <;> try (cases hv; done)
    rename_i k n
    have := er_int hci; subst this
    cases hx : ard (ers Sc) x with
    | none => simp [hx] at hv
    | some u =>
      obtain ⟨c, hc, hval, hrd, _⟩ := h.rd hx
      subst hc
      simp only [hx] at hv
      have hrun : ∀ (A : Addr) (m cap : Nat), val c = .slice (some A) m cap → Γ.kind E ≠ .no → 0 ≤ n → n < m →
          (execOp a.eval o).run P w = .ok (.value (.pointer (some (A.add (n.toNat * Γ.size E))))) w := by
        intro A m cap hcv hE h0 h1
        unfold execOp
        simp only [ho]
        rw [← hval, ← hival, hcv, val_int]
        have hs := run_size (P := P) hT hE w
        simp [Instr.indexAt, asIntOf, run_underlying (hT.sl T E hk), h0, h1, hs]
      cases hu : er c <;> simp only [hu] at hv <;> try (cases hv; done)
      · rename_i ob s ys
        obtain ⟨A, cap, xs, rfl, rfl⟩ := er_lst hu
        cases ob
        case true => simp at hv
        dsimp only at hv
        split at hv
        case isFalse => cases hv
        rename_i h0
        cases hy : (ers xs)[n.toNat]? with
        | none => simp [hy] at hv
        | some y =>
          simp only [hy] at hv
          split at hv
          case isFalse => cases hv
          rename_i hE
          simp only [Option.some.injEq] at hv
          subst hv
          rw [ers_eq, List.getElem?_map] at hy
          cases hz : xs[n.toNat]? with
          | none => simp [hz] at hy
          | some z =>
            simp only [hz, Option.map_some, Option.some.injEq] at hy
            subst hy
            have hkk := hrd.ok
            simp only [Ok] at hkk
            obtain ⟨⟨b1, b2, b3⟩, c2, c3, c4⟩ := hkk
            have hlt := (List.getElem?_eq_some_iff.1 hz).1
            rcases b2 with b2 | ⟨ad, rfl, hsp, hcell, hzb⟩
            · omega
            have hwf := hrd.wf
            simp only [Wf] at hwf
            have hpz := (plL_iff xs).1 hwf z (List.mem_of_getElem? hz)
            have hsE : Γ.size E = s := by rw [← hE.2, alen_er]; exact c2 z (List.mem_of_getElem? hz)
            have hoff : (flats (xs.take n.toNat)).length = n.toNat * s := by
              rw [flats_len_of (s := s) fun x hx => c2 x (List.mem_of_mem_take hx)]; simp [Nat.min_eq_left (Nat.le_of_lt hlt)]
            rw [flats_cut hz, cellsAt_append hsp, cellsAt_append (add_spot hsp _), hoff] at hcell
            have hfz : fp z = [] := by
              have := c3 (by trivial)
              rw [fps_cut hz] at this
              simp at this; exact this.2.1
            refine ⟨.ip (ad.add (n.toNat * s)) z, by simp [er], ?_, ⟨by simpa only [RefOk] using Pl.refOk _ hpz, by simpa only [Wf] using Pl.wf _ hpz, ?_, by simp [fp], .inl (by simpa only [Pl] using hpz)⟩, by simp⟩
            · rw [hrun ad xs.length cap (by simp [val, val1, flat]) hE.1 h0 (by omega), hsE]
              simp [val, val1, flat]
            · simp only [Ok]
              exact ⟨add_spot hsp _, by rw [add_block]; exact hzb (by trivial), hcell.2.1, hfz, ((okL_cut hz).1 c4).2.1⟩
      · rename_i r p lo m
        obtain ⟨cv, rfl⟩ := er_ref hu
        split at hv
        case isFalse => cases hv
        rename_i hn
        cases hy : aget (ers Sc) r (p ++ [lo + n.toNat]) with
        | none => simp [hy] at hv
        | some y =>
          simp only [hy] at hv
          split at hv
          case isFalse => cases hv
          rename_i hE
          simp only [Option.some.injEq] at hv
          subst hv
          have hr := hrd.refOk
          simp only [RefOk] at hr
          obtain ⟨x0, s, A, cap, xs, l, hx0, hp, hg, hlo, A', c', rfl, hloc, rfl, hnc, hA0, hA1⟩ := hr
          have hlt : lo + n.toNat < xs.length := by omega
          have hokx := ((okL_cut hx0).1 ((okL_append _ _).1 h.ok).1).2.1
          have hoky : Ok w Z (.lst true s A cap xs) := ok_get p _ _ _ l hg (ok_root hokx).1
          simp only [Ok] at hoky
          obtain ⟨⟨b1, b2, b3⟩, c2, c3, c4⟩ := hoky
          obtain ⟨_, ad, cur, EE, rfl, hsp, hbl, hmx, hroom⟩ := b3 (by trivial) (by omega)
          have hget : cgetN (rootC x0).1 (rootC x0).2 (p ++ [lo + n.toNat]) = some (xs[lo + n.toNat], some (ad.add ((lo + n.toNat) * s))) := by
            rw [get_append, hg]
            simp [cgetN, List.getElem?_eq_getElem hlt]
          have hyy : y = er xs[lo + n.toNat] := by
            have := er_cget (Sc := Sc) (r := r) (p := p ++ [lo + n.toNat]) (y := xs[lo + n.toNat]) (l := some (ad.add ((lo + n.toNat) * s))) (by simp [cget, hx0, hget])
            rw [hy] at this; simpa using this
          have hsE : Γ.size E = s := by rw [← hE.2, hyy, alen_er]; exact c2 _ (List.getElem_mem _)
          refine ⟨.at r (p ++ [lo + n.toNat]) (ad.add ((lo + n.toNat) * s)), by simp [er], ?_, ⟨?_, by simp [Wf], by simp [Ok], by simp [fp], .inr (by simp [NoOwn])⟩, by simp⟩
          · have hA' : A' = some (ad.add (lo * s)) := by rw [hA1 (by omega)]; rfl
            rw [hrun (ad.add (lo * s)) m (cap - lo) (by simp [val, val1, flat, hA']) hE.1 hn.1 hn.2, hsE, add_add hsp, ← Nat.add_mul]
            simp [val, val1, flat]
          · simp only [RefOk]
            exact ⟨x0, _, hx0, hp, hget⟩

theorem field_sound (hT : TabOk P Γ) (h : Good K w0 Z Sc L a w) {o : Oper} {T f : Nat} {x : Operand} (ho : o.op = .field T x f) {v : AV} (hv : qv Γ (ers Sc) o = some v) : QS P a w Z Sc o v := by
  simp only [qv, ho] at hv
  cases hx : ard (ers Sc) x with
  | none => simp [hx] at hv
  | some u =>
    obtain ⟨c, hc, hval, hrd, _⟩ := h.rd hx
    subst hc
    simp only [hx] at hv
    cases hu : er c <;> simp only [hu] at hv <;> try (cases hv; done)
    rename_i ys
    obtain ⟨xs, rfl, rfl⟩ := er_agg hu
    cases hk : Γ.kind T <;> simp only [hk] at hv <;> try (cases hv; done)
    rename_i fs
    cases hy : (ers xs)[f]? with
    | none => simp [hy] at hv
    | some y =>
      simp only [hy] at hv
      cases ht : fs[f]? with
      | none => simp [ht] at hv
      | some t =>
        simp only [ht] at hv
        split at hv
        case isFalse => cases hv
        rename_i hf
        simp only [Option.some.injEq] at hv
        subst hv
        rw [ers_eq, List.getElem?_map] at hy
        cases hz : xs[f]? with
        | none => simp [hz] at hy
        | some z =>
          simp only [hz, Option.map_some, Option.some.injEq] at hy
          subst hy
          obtain ⟨F, fd, i, g1, g2, g3, g4, g5, g6⟩ := fieldOk_run hT hf.1
          have hfd : fd.type = t := by
            obtain ⟨F', hF', _, hall⟩ := hT.st T fs hk
            rw [g1] at hF'
            simp only [Option.some.injEq, TypeDesc.struct.injEq] at hF'
            obtain ⟨fd', q1, q2, _⟩ := hall f t ht
            rw [← hF', g2] at q1
            simp only [Option.some.injEq] at q1
            rw [q1]; exact q2
          have hlen : alens ((ers xs).take f) = (flats (xs.take f)).length := by rw [ers_eq, ← List.map_take, ← ers_eq, alens_er]
          have hkk := hrd.ok
          simp only [Ok] at hkk
          have hrr := hrd.refOk
          simp only [RefOk, refOkL_iff] at hrr
          have hww := hrd.wf
          simp only [Wf, wfL_iff] at hww
          have hmem := List.mem_of_getElem? hz
          have hff := hrd.fp
          simp only [fp] at hff
          rw [fps_cut hz] at hff
          have hsorted : Pl z ∨ NoOwn z := by
            rcases hrd.sorted with hs | hs
            · simp only [Pl, plL_iff] at hs; exact .inl (hs z hmem)
            · simp only [NoOwn, noOwnL_iff] at hs; exact .inr (hs z hmem)
          refine ⟨z, rfl, ?_, ⟨hrr z hmem, hww z hmem, ((okL_cut hz).1 hkk).2.1, by simp at hff; exact hff.2.1, hsorted⟩, fits_not_tup hf.2⟩
          unfold execOp
          simp only [ho]
          rw [← hval]
          have hag := run_isAgg (P := P) hT (fits_kind hf.2) w
          have hsz := run_size (P := P) hT (fits_kind hf.2) w
          have hnt := fits_not_tup hf.2
          simp only [Instr.field, Sem.run_bind, run_underlying g1, Result.andThen_ok, g2, val_agg, asAgg, Sem.run_pure, part, hfd, hag, g3, hlen]
          have hseg := flats_cut hz
          by_cases hagg : ∃ zs, z = .agg zs
          · obtain ⟨zs, rfl⟩ := hagg
            cases e : Γ.kind t with
            | st fs' =>
              have hf2 := hf.2
              simp only [er, fitsA, e, beq_iff_eq, alens_er] at hf2
              simp only [if_true, Sem.run_bind, hsz, Result.andThen_ok, Sem.run_pure, val_agg]
              congr 3
              apply Array.ext'
              simp only [Array.toList_extract, List.extract_eq_take_drop]
              rw [hseg, ← hf2]
              simp [flat]
            | _ => have hf2 := hf.2; simp [er, fitsA, e] at hf2
          · have hfl := flat_one (x := z) fun xs e => hagg ⟨xs, e⟩
            have hv : val z = val1 z := by cases z <;> first | rfl | exact absurd rfl (hnt _)
            have h0 : (flats xs)[(flats (xs.take f)).length]? = some (val1 z) := by
              rw [hseg, List.getElem?_append_right (Nat.le_refl _), hfl]; simp
            cases e : Γ.kind t with
            | st fs' =>
              exfalso
              have hf2 := hf.2
              cases z <;> simp [fitsA, e, er] at hf2
              exact hagg ⟨_, rfl⟩
            | _ => simp [h0, hv]
end
end Go.Bv

/-! Quiet operations, the rest: arithmetic, texts, slices, lengths; all in one theorem. -/
namespace Go.Bv
open Go Go.RowKit
set_option linter.unusedSimpArgs false
set_option linter.unusedVariables false
section
variable {K : Nat → Prop} {w0 : World} {Z : Nat → Prop} {Sc L : List CV} {a : Act} {w : World} {P : Program} {Γ : Tab}

theorem move_sound (h : Good K w0 Z Sc L a w) {o : Oper} {x : Operand} (ho : o.op = .move x) {v : AV} (hv : qv Γ (ers Sc) o = some v) : QS P a w Z Sc o v := by
  simp only [qv, ho] at hv
  obtain ⟨c, hc, hval, hrd, hnt⟩ := h.rd hv
  refine ⟨c, hc, ?_, hrd, hnt⟩
  unfold execOp
  simp [ho, hval]

theorem pick_sound (h : Good K w0 Z Sc L a w) {o : Oper} {x y z : Operand} (ho : o.op = .pick x y z) {v : AV} (hv : qv Γ (ers Sc) o = some v) : QS P a w Z Sc o v := by
  simp only [qv, ho] at hv
  cases hx : ard (ers Sc) x with
  | none => simp [hx] at hv
  | some u =>
    obtain ⟨c, hc, hval, _, _⟩ := h.rd hx
    simp only [hx] at hv
    cases u <;> try (cases hv; done)
    rename_i t
    have := er_bool hc; subst this
    have hb : a.eval x = .bool t := by rw [← hval]; rfl
    cases t
    · simp only [Bool.false_eq_true, if_false] at hv
      obtain ⟨c, hc, hval, hrd, hnt⟩ := h.rd hv
      exact ⟨c, hc, by unfold execOp; simp [ho, hb, asBool, hval], hrd, hnt⟩
    · simp only [if_true] at hv
      obtain ⟨c, hc, hval, hrd, hnt⟩ := h.rd hv
      exact ⟨c, hc, by unfold execOp; simp [ho, hb, asBool, hval], hrd, hnt⟩

theorem intBin_run {op : BinOp} {k : IntKind} {x y : Int} {v : AV} (hv : intBin op k x y = some v) (hs : op ≠ .shl ∧ op ≠ .shr) (T : Nat) :
    ∃ c, er c = v ∧ (binOp op T (.int k x) (.int k y)).run P w = .ok (val c) w ∧ ∀ Sc Z, Rd w Z Sc c ∧ (∀ xs, c ≠ .tup xs) := by
  have hi : ∀ m : Int, v = .int k m → (binOp op T (.int k x) (.int k y)).run P w = .ok (.int k m) w → ∃ c, er c = v ∧ (binOp op T (.int k x) (.int k y)).run P w = .ok (val c) w ∧ ∀ Sc Z, Rd w Z Sc c ∧ (∀ xs, c ≠ .tup xs) :=
    fun m e1 e2 => ⟨.int k m, by rw [e1]; rfl, by rw [e2]; rfl, fun _ _ => ⟨rd_int _ _, by simp⟩⟩
  have hb : ∀ m : Bool, v = .bool m → (binOp op T (.int k x) (.int k y)).run P w = .ok (.bool m) w → ∃ c, er c = v ∧ (binOp op T (.int k x) (.int k y)).run P w = .ok (val c) w ∧ ∀ Sc Z, Rd w Z Sc c ∧ (∀ xs, c ≠ .tup xs) :=
    fun m e1 e2 => ⟨.bool m, by rw [e1]; rfl, by rw [e2]; rfl, fun _ _ => ⟨rd_bool _, by simp⟩⟩
  cases op <;> simp only [intBin] at hv <;> try (cases hv; done)
  case add => simp only [Option.some.injEq] at hv; exact hi _ hv.symm (by simp [binOp, Op.intArith])
  case sub => simp only [Option.some.injEq] at hv; exact hi _ hv.symm (by simp [binOp, Op.intArith])
  case mul => simp only [Option.some.injEq] at hv; exact hi _ hv.symm (by simp [binOp, Op.intArith])
  case quo =>
    split at hv
    · cases hv
    · rename_i h0; simp only [Option.some.injEq] at hv; exact hi _ hv.symm (by simp [binOp, Op.intDiv, h0])
  case rem =>
    split at hv
    · cases hv
    · rename_i h0; simp only [Option.some.injEq] at hv; exact hi _ hv.symm (by simp [binOp, Op.intDiv, h0])
  case and => simp only [Option.some.injEq] at hv; exact hi _ hv.symm (by simp [binOp, Op.intBits])
  case xor => simp only [Option.some.injEq] at hv; exact hi _ hv.symm (by simp [binOp, Op.intBits])
  all_goals simp only [Option.some.injEq] at hv
  case eql => exact hb _ hv.symm (by simp [binOp, Op.intCmp])
  case neq => exact hb _ hv.symm (by simp [binOp, Op.intCmp])
  case lss => exact hb _ hv.symm (by simp [binOp, Op.intCmp])
  case leq => exact hb _ hv.symm (by simp [binOp, Op.intCmp])
  case gtr => exact hb _ hv.symm (by simp [binOp, Op.intCmp])
  case geq => exact hb _ hv.symm (by simp [binOp, Op.intCmp])

theorem strBin_run {op : BinOp} {x y : ByteArray} {v : AV} (hv : strBin op x y = some v) (T : Nat) :
    ∃ c, er c = v ∧ (binOp op T (.string x) (.string y)).run P w = .ok (val c) w ∧ ∀ Sc Z, Rd w Z Sc c ∧ (∀ xs, c ≠ .tup xs) := by
  cases op <;> simp only [strBin] at hv <;> try (cases hv; done)
  · split at hv
    case isFalse => cases hv
    rename_i h0
    simp only [Option.some.injEq] at hv; subst hv
    refine ⟨.str _, rfl, ?_, fun _ _ => ⟨rd_str _, by simp⟩⟩
    have : ¬ (((x.size + y.size : Nat) : Int) > IntKind.i64.max) := by
      have h1 : IntKind.i64.max = 9223372036854775807 := by simp [IntKind.max, IntKind.signed, IntKind.bits]
      rw [h1]; omega
    simp only [binOp, Op.stringOp, if_neg this, Sem.run_pure, val_str]
  · simp only [Option.some.injEq] at hv; subst hv
    exact ⟨.bool _, rfl, by simp [binOp, Op.stringOp, val_bool], fun _ _ => ⟨rd_bool _, by simp⟩⟩
  · simp only [Option.some.injEq] at hv; subst hv
    exact ⟨.bool _, rfl, by simp [binOp, Op.stringOp, val_bool], fun _ _ => ⟨rd_bool _, by simp⟩⟩

theorem run_equalIn_bool {T : Nat} (hu : P.underlying T = some .bool) (d : Nat) (x y : Bool) : (Op.equalIn (d + 1) T (.bool x) (.bool y)).run P w = .ok (x == y) w := by
  simp only [Op.equalIn, Sem.run_bind, run_underlying hu, Result.andThen_ok, Sem.run_pure]
theorem run_equal_bool {T : Nat} (hu : P.underlying T = some .bool) (x y : Bool) : (Op.equal T (.bool x) (.bool y)).run P w = .ok (x == y) w :=
  run_equalIn_bool hu 9999 x y
theorem binOp_sound (hT : TabOk P Γ) (h : Good K w0 Z Sc L a w) {o : Oper} {op : BinOp} {T T' : Nat} {x y : Operand} (ho : o.op = .binOp op T x y T') {v : AV} (hv : qv Γ (ers Sc) o = some v) : QS P a w Z Sc o v := by
  simp only [qv, ho] at hv
  cases hx : ard (ers Sc) x with
  | none => simp [hx] at hv
  | some u =>
    cases hy : ard (ers Sc) y with
    | none => simp [hx, hy] at hv
    | some u' =>
      simp only [hx, hy] at hv
      obtain ⟨c, hc, hval, _, _⟩ := h.rd hx
      obtain ⟨c', hc', hval', _, _⟩ := h.rd hy
      unfold QS execOp
      simp only [ho]
      rw [← hval, ← hval']
      unfold binA at hv
      split at hv
      · rename_i k n k' n'
        have := er_int hc; subst this
        have := er_int hc'; subst this
        have hg : ∀ w, (eqGuard op T x y (.int k n) (.int k' n')).run P w = .ok () w := by intro w; simp only [eqGuard]; split <;> rfl
        split at hv
        · rename_i hsh
          subst hsh
          split at hv
          case isFalse => cases hv
          rename_i h0
          simp only [Option.some.injEq] at hv; subst hv
          refine ⟨.int _ _, rfl, ?_, rd_int _ _, by simp⟩
          simp only [Sem.run_bind, hg, Result.andThen_ok, val_int, binOp, Op.shift, if_neg (show ¬ n' < 0 by omega), Sem.run_pure]
        · rename_i hsh
          split at hv
          case isFalse => cases hv
          rename_i hk; subst hk
          by_cases hl : op = .shl
          · subst hl; simp [intBin] at hv
          · obtain ⟨c, h1, h2, h3⟩ := intBin_run (P := P) (w := w) hv ⟨hl, hsh⟩ T
            exact ⟨c, h1, by simp only [Sem.run_bind, hg, Result.andThen_ok, val_int, h2, Sem.run_pure], (h3 Sc Z).1, (h3 Sc Z).2⟩
      · rename_i s s'
        have := er_str hc; subst this
        have := er_str hc'; subst this
        have hg : ∀ w, (eqGuard op T x y (.string s) (.string s')).run P w = .ok () w := by intro w; simp only [eqGuard]; split <;> rfl
        obtain ⟨c, h1, h2, h3⟩ := strBin_run (P := P) (w := w) hv T
        exact ⟨c, h1, by simp only [Sem.run_bind, hg, Result.andThen_ok, val_str, h2, Sem.run_pure], (h3 Sc Z).1, (h3 Sc Z).2⟩
      · rename_i b b'
        have := er_bool hc; subst this
        have := er_bool hc'; subst this
        have hg : ∀ w, (eqGuard op T x y (.bool b) (.bool b')).run P w = .ok () w := by intro w; simp only [eqGuard]; split <;> rfl
        split at hv
        case isFalse => cases hv
        rename_i hk
        have hu := hT.bool T hk
        cases op <;> simp only at hv <;> try (cases hv; done)
        all_goals
          simp only [Option.some.injEq] at hv; subst hv
          refine ⟨.bool _, rfl, ?_, rd_bool _, by simp⟩
          have he := run_equal_bool (P := P) (w := w) hu b b'
          simp only [Sem.run_bind, hg, Result.andThen_ok, val_bool, binOp, he, Sem.run_pure]
      · cases hv

theorem unOp_sound (h : Good K w0 Z Sc L a w) {o : Oper} {op : UnOp} {T : Nat} {x : Operand} (ho : o.op = .unOp op T x) {v : AV} (hv : qv Γ (ers Sc) o = some v) : QS P a w Z Sc o v := by
  simp only [qv, ho] at hv
  cases hx : ard (ers Sc) x with
  | none => simp [hx] at hv
  | some u =>
    simp only [hx] at hv
    obtain ⟨c, hc, hval, _, _⟩ := h.rd hx
    unfold QS execOp
    simp only [ho]
    rw [← hval]
    unfold unA at hv
    split at hv
    · have := er_bool hc; subst this
      simp only [Option.some.injEq] at hv; subst hv
      exact ⟨.bool _, rfl, by simp [val_bool, Op.unary], rd_bool _, by simp⟩
    · have := er_int hc; subst this
      simp only [Option.some.injEq] at hv; subst hv
      exact ⟨.int _ _, rfl, by simp [val_int, Op.unary, Op.intArith], rd_int _ _, by simp⟩
    · cases hv

theorem run_und (hT : TabOk P Γ) {T : Nat} (hk : Γ.kind T ≠ .no) : ∃ d, P.underlying T = some d := by
  cases e : Γ.kind T with
  | int k => exact ⟨_, hT.int T k e⟩
  | bool => exact ⟨_, hT.bool T e⟩
  | str => exact ⟨_, hT.str T e⟩
  | sl E => exact ⟨_, hT.sl T E e⟩
  | st fs => obtain ⟨F, h1, _⟩ := hT.st T fs e; exact ⟨_, h1⟩
  | ptr => obtain ⟨E, h1⟩ := hT.ptr T e; exact ⟨_, h1⟩
  | no => exact absurd e hk

theorem conv_sound (hT : TabOk P Γ) (h : Good K w0 Z Sc L a w) {o : Oper} {s d : Nat} {x : Operand} (ho : o.op = .convert s d x) {v : AV} (hv : qv Γ (ers Sc) o = some v) : QS P a w Z Sc o v := by
  simp only [qv, ho] at hv
  cases hx : ard (ers Sc) x with
  | none => simp [hx] at hv
  | some u =>
    simp only [hx] at hv
    split at hv
    case isFalse => cases hv
    rename_i hks
    obtain ⟨c, hc, hval, _, _⟩ := h.rd hx
    unfold QS execOp
    simp only [ho]
    rw [← hval]
    obtain ⟨ds, hds⟩ := run_und hT hks
    unfold convA at hv
    split at hv
    · rename_i k k' n hk
      have := er_int hc; subst this
      simp only [Option.some.injEq] at hv; subst hv
      refine ⟨.int _ _, rfl, ?_, rd_int _ _, by simp⟩
      simp [val_int, convert, run_underlying hds, run_underlying (hT.int d k hk), Conv.intToInt]
    · rename_i k' n hk
      have := er_int hc; subst this
      simp only [Option.some.injEq] at hv; subst hv
      refine ⟨.str _, rfl, ?_, rd_str _, by simp⟩
      simp [val_int, val_str, convert, run_underlying hds, run_underlying (hT.str d hk), Conv.intToString]
    · rename_i s' hk
      have := er_str hc; subst this
      simp only [Option.some.injEq] at hv; subst hv
      refine ⟨.str _, rfl, ?_, rd_str _, by simp⟩
      simp [val_str, convert, run_underlying hds, run_underlying (hT.str d hk)]
    · cases hv

theorem index_sound (hT : TabOk P Γ) (h : Good K w0 Z Sc L a w) {o : Oper} {T : Nat} {x i : Operand} (ho : o.op = .index T x i) {v : AV} (hv : qv Γ (ers Sc) o = some v) : QS P a w Z Sc o v := by
  simp only [qv, ho] at hv
  split at hv
  case h_2 => cases hv
  rename_i s k n hk hx hi
  obtain ⟨c, hc, hval, _, _⟩ := h.rd hx
  obtain ⟨c', hc', hval', _, _⟩ := h.rd hi
  have := er_str hc; subst this
  have := er_int hc'; subst this
  split at hv
  case isFalse => cases hv
  rename_i h0
  cases hb : s[n.toNat]? with
  | none => simp [hb] at hv
  | some b =>
    simp only [hb, Option.some.injEq] at hv
    subst hv
    unfold QS execOp
    simp only [ho]
    rw [← hval, ← hval']
    refine ⟨.int _ _, rfl, ?_, rd_int _ _, by simp⟩
    simp [val_str, val_int, Instr.index, asIntOf, run_underlying (hT.str T hk), h0, hb]

end
end Go.Bv
