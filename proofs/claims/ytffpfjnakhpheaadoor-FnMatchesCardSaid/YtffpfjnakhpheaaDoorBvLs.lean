/- Contracts of Go's library, by value. Generic: no program. -/
import Derived.Test.YtffpfjnakhpheaaDoorBvM4
import Derived.Below
import Derived.Lib.Join
import Derived.Lib.Split
import Derived.Shelf.Strings.Search3
import Derived.Shelf.Strings.Prefix
import Derived.Shelf.Strings.Split
import Derived.Shelf.Strings.OnBuilder
namespace Go.Bv
open Go Go.RowKit
set_option linter.unusedSimpArgs false
set_option linter.unusedVariables false

theorem GW.maxLen {P : Program} {w : World} {fs : List Nat} (h : GW P w fs) {g : Nat} (hg : gMax P = some g) : ∃ m, w.cell? ⟨g, 0, none⟩ = some (.int .i64 m) := (h g hg).2
/-- A call whose result leans on no memory. -/
theorem sound_val {P : Program} {f : Nat} {args : List AV} {c : CV} (hfp : fp c = []) (hok : ∀ w Z, Ok w Z c) (hnr : NR c)
    (h : ∀ (w : World) (Z0 : Nat → Prop) (cs : List CV), ers cs = args → OkL w Z0 cs → (∀ b, Z0 b → b < w.heap.size) → GW P w (fps cs) → Calls P f (cs.map val).toArray w fun e w' => e = .returned (val c) ∧ Below w.heap.size w w') : Sound P f args (er c) := by
  intro w Z0 cs hcs hk hnd hap hlt hpl hgw
  refine (h w Z0 cs hcs hk (fun b hb => hlt b (.inr hb)) hgw).mono fun e w' ⟨he, hb⟩ => ⟨c, he, rfl, ?_⟩
  exact ⟨⟨Z0, fun b h => h, fun b h => ⟨.inl h, Nat.lt_of_lt_of_le (hlt b (.inr h)) hb.size⟩, hok _ _, by simp [hfp]⟩, hnr, by simp [hfp], by simp [hfp], fun b hl _ => hb.block b hl, hb.size, hb.os, hb.tape, hb.output⟩
theorem ers_strs {xs : List CV} {ws : List ByteArray} (h : ers xs = ws.map .str) : xs = ws.map .str := by
  induction xs generalizing ws with
  | nil => cases ws <;> simp [ers] at h ⊢
  | cons x xs ih =>
    cases ws with
    | nil => simp [ers] at h
    | cons v ws => simp only [ers, List.map_cons, List.cons.injEq] at h ⊢; exact ⟨er_str h.1, ih h.2⟩
theorem flats_strs (ws : List ByteArray) : flats (ws.map .str) = ws.map .string := by
  induction ws with
  | nil => rfl
  | cons v ws ih => simp [flats, flat, ih]
theorem fps_strs (ws : List ByteArray) : fps (ws.map CV.str) = [] := by
  induction ws with
  | nil => rfl
  | cons v ws ih => simp [fps, fp, ih]
theorem sound_str2 {P : Program} {f : Nat} {s t : ByteArray} {c : CV} (hfp : fp c = []) (hok : ∀ w Z, Ok w Z c) (hnr : NR c)
    (h : ∀ w : World, GW P w [] → Calls P f #[.string s, .string t] w fun e w' => e = .returned (val c) ∧ w' = w) : Sound P f [.str s, .str t] (er c) :=
  sound_val hfp hok hnr fun w Z0 cs hcs hk hlt hgw => by
    obtain ⟨x, y, rfl, h1, h2⟩ := ers_two hcs
    cases er_str h1
    cases er_str h2
    exact (h w (hgw.mono (by simp))).mono fun e w' ⟨he, hw⟩ => ⟨he, hw ▸ Below.refl _ _⟩

/-- The texts, a text between each two. -/
def joinS (ws : List ByteArray) (sep : ByteArray) : ByteArray := ⟨(Lib.join (ws.map (·.data.toList)) sep.data.toList).toArray⟩
theorem sound_Join {P : Program} {f s : Nat} {ws : List ByteArray} {sep : ByteArray} (hN : ws.length ≤ 140737488355328) (hlen : (joinS ws sep).size ≤ 140737488355328)
    (h0 : ∀ (a : Option Addr) (c : Nat) (w : World), Calls P f #[.slice a 0 c, .string sep] w fun e w' => e = .returned (.string ⟨#[]⟩) ∧ w' = w)
    (h : ∀ (bk o c : Nat) (w : World), (∀ (j : Nat) x, ws[j]? = some x → w.cell? ⟨bk, o + j, none⟩ = some (.string x)) → bk < w.heap.size → ws.length ≤ c →
      Calls P f #[.slice (some ⟨bk, o, none⟩) ws.length c, .string sep] w fun e w' => e = .returned (.string (joinS ws sep)) ∧ Below w.heap.size w w') :
    Sound P f [.lst false s (ws.map .str), .str sep] (.str (joinS ws sep)) :=
  sound_val (c := .str (joinS ws sep)) rfl (by simp [Ok]) (by simp [NR, Pl]) fun w Z0 cs hcs hk hlt hgw => by
    obtain ⟨x, y, rfl, h1, h2⟩ := ers_two hcs
    cases er_str h2
    obtain ⟨A, c, xs, rfl, hx⟩ := er_lst h1
    have hxs := ers_strs hx
    subst hxs
    simp only [OkL, Ok] at hk
    obtain ⟨⟨⟨hn, hcl, _⟩, _⟩, _⟩ := hk
    rw [List.length_map] at hn hcl
    rcases hcl with hz | ⟨a, rfl, hs, hc, hZ⟩
    · have hws : ws = [] := List.eq_nil_of_length_eq_zero hz
      subst hws
      exact (h0 A c w).mono fun e w' ⟨he, hw⟩ => ⟨he, hw ▸ Below.refl _ _⟩
    · obtain ⟨b, o, sp⟩ := a
      simp only at hs
      subst hs
      have := h b o c w (fun j x hj => by
        have := (cellsAt_iff (w := w) (a := ⟨b, o, none⟩) rfl).1 hc j (.string x) (by rw [flats_strs, List.getElem?_map, hj]; rfl)
        exact this) (hlt b (hZ rfl)) hn
      simpa [val, val1, flat] using this

/-- A result that is a fresh list of texts. -/
theorem sound_texts {P : Program} {f : Nat} {args : List AV} {ws : List ByteArray} {t : TypeId} (hne : ws ≠ []) (hm : ws.length ≤ maxLen)
    (h : ∀ (w : World) (Z0 : Nat → Prop) (cs : List CV), ers cs = args → GW P w [] → Calls P f (cs.map val).toArray w fun e w' => e = .returned (.slice (some ⟨w.heap.size, 0, none⟩) ws.length ws.length) ∧ w' = w.alloc (.cells (ws.map Value.string).toArray t)) :
    Sound P f args (.lst true 1 (ws.map .str)) := by
  intro w Z0 cs hcs hk hnd hap hlt hpl hgw
  refine (h w Z0 cs hcs (hgw.mono (by simp))).mono fun e w' ⟨he, hw⟩ => ?_
  subst hw
  have hnew := heap_alloc_new w (.cells (ws.map Value.string).toArray t)
  have hold : ∀ b, b < w.heap.size → (w.alloc (.cells (ws.map Value.string).toArray t)).heap[b]? = w.heap[b]? := fun b hb => heap_alloc_ne w _ hb
  have hsz : (w.alloc (.cells (ws.map Value.string).toArray t)).heap.size = w.heap.size + 1 := size_alloc _ _
  have hl0 : ws.length ≠ 0 := fun e => hne (List.eq_nil_of_length_eq_zero e)
  have hfp : fp (.lst true 1 (some ⟨w.heap.size, 0, none⟩) ws.length (ws.map .str)) = [w.heap.size] := by
    simp [fp, hl0, fps_strs]
  refine ⟨.lst true 1 (some ⟨w.heap.size, 0, none⟩) ws.length (ws.map .str), ?_, ?_, ?_⟩
  · rw [he]; simp [val, val1, flat]
  · simp only [er, ers_eq, List.map_map]
    congr 1
  · refine ⟨⟨Z0, fun b h => h, fun b hb => ⟨.inl hb, ?_⟩, ?_, ?_⟩, ?_, ?_, ?_, fun b hb _ => hold b hb, by omega, rfl, rfl, rfl⟩
    · have := hlt b (.inr hb); omega
    · simp only [Ok]
      refine ⟨⟨by simp, .inr ⟨_, rfl, rfl, ?_, by simp⟩, fun _ _ => ⟨by simp, _, _, t, rfl, rfl, hnew, hm, by simp⟩⟩, ?_, by simp, ?_⟩
      · rw [cellsAt_iff rfl, flats_strs]
        intro j v hj
        simp only [World.cell?, hnew, Nat.zero_add]
        simpa using hj
      · intro x hx
        obtain ⟨v, _, rfl⟩ := List.mem_map.1 hx
        simp [flat]
      · rw [okL_iff]
        intro x hx
        obtain ⟨v, _, rfl⟩ := List.mem_map.1 hx
        simp [Ok]
    · rw [hfp]
      intro b hb hz
      simp only [List.mem_singleton] at hb
      have := hlt b (.inr hz); omega
    · simp only [NR, Pl, plL_iff]
      intro x hx
      obtain ⟨v, _, rfl⟩ := List.mem_map.1 hx
      simp [Pl]
    · rw [hfp]; simp
    · rw [hfp]
      intro b hb
      simp only [List.mem_singleton] at hb
      subst hb
      exact ⟨.inr (Nat.le_refl _), by omega⟩
end Go.Bv
