/- A store at the end of a path: what is told of the whole value stays told. Generic: no program. -/
import Derived.Test.YtjmodjanaeoiiaaBvB
namespace Go.Bv
open Go Go.RowKit
set_option linter.unusedSimpArgs false
set_option linter.unusedVariables false

theorem okL_cut {w : World} {Z : Nat → Prop} {xs : List CV} {i : Nat} {x : CV} (h : xs[i]? = some x) : OkL w Z xs ↔ OkL w Z (xs.take i) ∧ Ok w Z x ∧ OkL w Z (xs.drop (i + 1)) := by
  conv => lhs; rw [cut_at h]
  rw [okL_append]; simp only [OkL]
theorem flats_cut {xs : List CV} {i : Nat} {x : CV} (h : xs[i]? = some x) : flats xs = flats (xs.take i) ++ (flat x ++ flats (xs.drop (i + 1))) := by
  conv => lhs; rw [cut_at h]
  rw [flats_append]; simp only [flats]
theorem fps_cut {xs : List CV} {i : Nat} {x : CV} (h : xs[i]? = some x) : fps xs = fps (xs.take i) ++ (fp x ++ fps (xs.drop (i + 1))) := by
  conv => lhs; rw [cut_at h]
  rw [fps_append]; simp only [fps]
theorem flats_set {xs : List CV} {i : Nat} {x y : CV} (h : xs[i]? = some x) : flats (xs.set i y) = flats (xs.take i) ++ (flat y ++ flats (xs.drop (i + 1))) := by
  rw [set_at y h, flats_append]; simp only [flats]
theorem okL_set {w : World} {Z : Nat → Prop} {xs : List CV} {i : Nat} {x y : CV} (h : xs[i]? = some x) : OkL w Z (xs.set i y) ↔ OkL w Z (xs.take i) ∧ Ok w Z y ∧ OkL w Z (xs.drop (i + 1)) := by
  rw [set_at y h, okL_append]; simp only [OkL]

theorem Stored.ok {w w' : World} {ad : Addr} {n : Nat} (H : Stored w w' ad n) {Z : Nat → Prop} (hz : ¬ Z ad.block) {x : CV} (hf : ad.block ∉ fp x) (h : Ok w Z x) : Ok w' Z x :=
  Ok.congr (fun _ h => h) (fun b hb => H.other b fun e => hz (e ▸ hb)) x (fun b hb => H.other b fun e => hf (e ▸ hb)) h
theorem Stored.okL {w w' : World} {ad : Addr} {n : Nat} (H : Stored w w' ad n) {Z : Nat → Prop} (hz : ¬ Z ad.block) {xs : List CV} (hf : ad.block ∉ fps xs) (h : OkL w Z xs) : OkL w' Z xs :=
  OkL.congr (fun _ h => h) (fun b hb => H.other b fun e => hz (e ▸ hb)) xs (fun b hb => H.other b fun e => hf (e ▸ hb)) h

/-- What holds of a value that lies (or not) at a place, behind the store. -/
structure Upd (w' : World) (Z : Nat → Prop) (ad : Addr) (n : Nat) (x x' : CV) (l : Option Addr) : Prop where
  ok : Ok w' Z x'
  len : (flat x').length = (flat x).length
  at_ : ∀ a, l = some a → CellsAt w' a (flat x') ∧ (ad.block = a.block → a.off ≤ ad.off ∧ ad.off + n ≤ a.off + (flat x).length)
  where_ : ad.block ∈ fp x ∨ ∃ a, l = some a ∧ ad.block = a.block

theorem upd {w w' : World} {Z : Nat → Prop} {ad : Addr} {n : Nat} {y y' : CV} (H : Stored w w' ad n) (hz : ¬ Z ad.block) (hn : n = (flat y).length) (hlen : (flat y').length = (flat y).length)
    (hnew : CellsAt w' ad (flat y')) (hok : Ok w' Z y') :
    ∀ (p : List Nat) (x : CV) (l : Option Addr), Ok w Z x → (fp x).Nodup → (∀ a, l = some a → a.spot = none ∧ a.block ∉ fp x ∧ CellsAt w a (flat x)) →
      cgetN x l p = some (y, some ad) → Upd w' Z ad n x (csetN x p y') l
  | [], x, l, _, _, hl, h => by
    simp only [cgetN, Option.some.injEq, Prod.mk.injEq] at h
    obtain ⟨rfl, rfl⟩ := h
    simp only [csetN]
    refine ⟨hok, hlen, fun a ha => ?_, .inr ⟨ad, rfl, rfl⟩⟩
    cases ha
    exact ⟨hnew, fun _ => ⟨Nat.le_refl _, by omega⟩⟩
  | i :: p, x, l, hx, hnd, hl, h => by
    cases x <;> simp only [cgetN] at h <;> try (cases h; done)
    · rename_i o s A c xs
      split at h
      · cases h
      rename_i ho
      split at h
      case h_2 => cases h
      rename_i z hzi
      simp only [Ok] at hx
      obtain ⟨hh, hs, hsh, hxs⟩ := hx
      have hi := (List.getElem?_eq_some_iff.1 hzi).1
      have hc0 : c ≠ 0 := by have := hh.1; omega
      have ho1 : o = true := by simpa using ho
      obtain ⟨hx0, a, cur, E, rfl, hasp, hblk, hcm, hroom⟩ := hh.2.2 ho1 hc0
      have hcells : CellsAt w a (flats xs) := by
        rcases hh.2.1 with h0 | ⟨a', ha', _, hc', _⟩
        · omega
        · cases ha'; exact hc'
      have hfpx : fp (.lst o s (some a) c xs) = a.block :: fps xs := by simp [fp, ho, hc0]
      rw [hfpx] at hnd
      have hnd' := List.nodup_cons.1 hnd
      have hseg := flats_cut hzi
      have hoff : (flats (xs.take i)).length = i * s := by
        rw [flats_len_of (s := s) fun x hx => hs x (List.mem_of_mem_take hx)]; simp [Nat.min_eq_left (Nat.le_of_lt hi)]
      have hcz : CellsAt w (a.add (i * s)) (flat z) := by
        rw [hseg, cellsAt_append hasp, hoff, cellsAt_append (add_spot hasp _)] at hcells
        exact hcells.2.1
      have hndx : (fps xs).Nodup := hnd'.2
      have hfc := fps_cut hzi
      have hlz : (flat z).length = s := hs z (List.mem_of_getElem? hzi)
      have ih := upd H hz hn hlen hnew hok p z (some (a.add (i * s))) ((okL_cut hzi).1 hxs).2.1
        (by rw [hfc] at hndx; exact (List.nodup_append.1 (List.nodup_append.1 hndx).2.1).1)
        (fun a' ha' => by
          cases ha'
          refine ⟨add_spot hasp _, ?_, hcz⟩
          rw [add_block]
          intro hm; exact hnd'.1 (by rw [hfc]; simp [hm])) h
      obtain ⟨iok, ilen, iat, iwh⟩ := ih
      obtain ⟨icells, irange⟩ := iat _ rfl
      have hin : ad.block = a.block ∨ ad.block ∈ fp z := by
        rcases iwh with h' | ⟨a', ha', hb⟩
        · exact .inr h'
        · cases ha'; rw [add_block] at hb; exact .inl hb
      have hrange : ad.block = a.block → a.off + i * s ≤ ad.off ∧ ad.off + n ≤ a.off + i * s + s := fun e => by
        have := irange (by rw [add_block]; exact e)
        rw [add_eq hasp, hlz] at this
        exact this
      -- the siblings are apart
      have hnt : ad.block ∉ fps (xs.take i) := by
        rw [hfc] at hnd'
        rcases hin with e | hm
        · rw [e]; intro hm; exact hnd'.1 (by simp [hm])
        · intro hm'
          have hd := (List.nodup_append.1 hnd'.2).2.2
          exact hd _ hm' _ (by simp [hm]) rfl
      have hndp : ad.block ∉ fps (xs.drop (i + 1)) := by
        rw [hfc] at hnd'
        rcases hin with e | hm
        · rw [e]; intro hm; exact hnd'.1 (by simp [hm])
        · intro hm'
          have hd := (List.nodup_append.1 (List.nodup_append.1 hnd'.2).2.1).2.2
          exact hd _ hm _ hm' rfl
      obtain ⟨ok1, _, ok3⟩ := (okL_cut hzi).1 hxs
      have hcut : CellsAt w a (flats (xs.take i)) ∧ CellsAt w (a.add (i * s)) (flat z) ∧ CellsAt w ((a.add (i * s)).add s) (flats (xs.drop (i + 1))) := by
        rw [hseg, cellsAt_append hasp, hoff, cellsAt_append (add_spot hasp _), hlz] at hcells
        exact hcells
      have hc1 : CellsAt w' a (flats (xs.take i)) := H.cellsAt hasp hcut.1 fun e => .inl (by rw [hoff]; exact (hrange e.symm).1)
      have hc3 : CellsAt w' ((a.add (i * s)).add s) (flats (xs.drop (i + 1))) := H.cellsAt (add_spot (add_spot hasp _) _) hcut.2.2 fun e => .inr (by
        rw [add_add hasp, add_eq hasp] at e ⊢
        have := (hrange e.symm).2
        simp only; omega)
      have hnewcells : CellsAt w' a (flats (xs.set i (csetN z p y'))) := by
        rw [flats_set hzi, cellsAt_append hasp, hoff, cellsAt_append (add_spot hasp _), ilen, hlz]
        exact ⟨hc1, icells, hc3⟩
      simp only [csetN, hzi]
      refine ⟨?_, by simp [flat], ?_, ?_⟩
      · simp only [Ok]
        refine ⟨⟨by simpa using hh.1, .inr ⟨a, rfl, hasp, hnewcells, fun e => absurd e ho⟩, fun _ _ => ?_⟩, ?_, fun e => absurd e ho, ?_⟩
        · by_cases hb : a.block = ad.block
          · obtain ⟨cur', h1, h2⟩ := H.hit cur E (hb ▸ hblk)
            exact ⟨hx0, a, cur', E, rfl, hasp, hb ▸ h1, hcm, by rw [h2]; exact hroom⟩
          · exact ⟨hx0, a, cur, E, rfl, hasp, (H.other _ hb).trans hblk, hcm, hroom⟩
        · intro x hx
          rw [set_at _ hzi] at hx
          rcases List.mem_append.1 hx with hx | hx
          · exact hs x (List.mem_of_mem_take hx)
          · rcases List.mem_cons.1 hx with rfl | hx
            · rw [ilen]; exact hlz
            · exact hs x (List.mem_of_mem_drop hx)
        · rw [okL_set hzi]
          exact ⟨H.okL hz hnt ok1, iok, H.okL hz hndp ok3⟩
      · intro a' ha'
        obtain ⟨h1, h2, h3⟩ := hl a' ha'
        have hne : ad.block ≠ a'.block := fun e => h2 (by
          rw [hfpx, ← e]
          rcases hin with e' | hm
          · rw [e']; simp
          · rw [hfc]; simp [hm])
        refine ⟨?_, fun e => absurd e hne⟩
        have hflat : flat (.lst o s (some a) c (xs.set i (csetN z p y'))) = flat (.lst o s (some a) c xs) := by simp [flat]
        rw [hflat]
        exact h3.congr (H.other _ (Ne.symm hne))
      · refine .inl ?_
        rw [hfpx]
        rcases hin with e' | hm
        · rw [e']; simp
        · rw [hfc]; simp [hm]
    · rename_i xs
      split at h
      case h_2 => cases h
      rename_i z hzi
      simp only [Ok] at hx
      simp only [fp] at hnd hl
      have hi := (List.getElem?_eq_some_iff.1 hzi).1
      have hseg := flats_cut hzi
      have hfc := fps_cut hzi
      have ih := upd H hz hn hlen hnew hok p z (l.map (·.add (flats (xs.take i)).length)) ((okL_cut hzi).1 hx).2.1
        (by rw [hfc] at hnd; exact (List.nodup_append.1 (List.nodup_append.1 hnd).2.1).1)
        (fun a' ha' => by
          cases l with
          | none => simp at ha'
          | some a =>
            simp only [Option.map_some, Option.some.injEq] at ha'
            subst ha'
            obtain ⟨h1, h2, h3⟩ := hl a rfl
            refine ⟨add_spot h1 _, ?_, ?_⟩
            · rw [add_block]
              intro hm; exact h2 (by rw [hfc]; simp [hm])
            · simp only [flat] at h3
              rw [hseg, cellsAt_append h1, cellsAt_append (add_spot h1 _)] at h3
              exact h3.2.1) h
      obtain ⟨iok, ilen, iat, iwh⟩ := ih
      have hin : (∃ a, l = some a ∧ ad.block = a.block) ∨ ad.block ∈ fp z := by
        rcases iwh with h' | ⟨a', ha', hb⟩
        · exact .inr h'
        · cases l with
          | none => simp at ha'
          | some a => simp only [Option.map_some, Option.some.injEq] at ha'; subst ha'; rw [add_block] at hb; exact .inl ⟨a, rfl, hb⟩
      have hnt : ad.block ∉ fps (xs.take i) := by
        rcases hin with ⟨a, ha, e⟩ | hm
        · have := (hl a ha).2.1
          rw [e]; intro hm; exact this (by rw [hfc]; simp [hm])
        · rw [hfc] at hnd
          intro hm'
          exact (List.nodup_append.1 hnd).2.2 _ hm' _ (by simp [hm]) rfl
      have hndp : ad.block ∉ fps (xs.drop (i + 1)) := by
        rcases hin with ⟨a, ha, e⟩ | hm
        · have := (hl a ha).2.1
          rw [e]; intro hm; exact this (by rw [hfc]; simp [hm])
        · rw [hfc] at hnd
          intro hm'
          exact (List.nodup_append.1 (List.nodup_append.1 hnd).2.1).2.2 _ hm _ hm' rfl
      obtain ⟨ok1, _, ok3⟩ := (okL_cut hzi).1 hx
      simp only [csetN, hzi]
      refine ⟨?_, ?_, ?_, ?_⟩
      · simp only [Ok]
        rw [okL_set hzi]
        exact ⟨H.okL hz hnt ok1, iok, H.okL hz hndp ok3⟩
      · simp only [flat]
        rw [flats_set hzi, hseg]
        simp [ilen]
      · intro a ha
        subst ha
        obtain ⟨h1, h2, h3⟩ := hl a rfl
        obtain ⟨icells, irange⟩ := iat (a.add (flats (xs.take i)).length) rfl
        simp only [flat] at h3 ⊢
        have hcut := h3
        rw [hseg, cellsAt_append h1, cellsAt_append (add_spot h1 _)] at hcut
        have hrange : ad.block = a.block → a.off + (flats (xs.take i)).length ≤ ad.off ∧ ad.off + n ≤ a.off + (flats (xs.take i)).length + (flat z).length := fun e => by
          have := irange (by rw [add_block]; exact e)
          rw [add_eq h1] at this
          exact this
        refine ⟨?_, fun e => ?_⟩
        · rw [flats_set hzi, cellsAt_append h1, cellsAt_append (add_spot h1 _), ilen]
          refine ⟨H.cellsAt h1 hcut.1 fun e => .inl (hrange e.symm).1, icells, H.cellsAt (add_spot (add_spot h1 _) _) hcut.2.2 fun e => .inr ?_⟩
          rw [add_add h1, add_eq h1] at e ⊢
          have := (hrange e.symm).2
          simp only; omega
        · have := hrange e
          rw [hseg]
          simp only [List.length_append]
          omega
      · rcases hin with ⟨a, ha, e⟩ | hm
        · exact .inr ⟨a, ha, e⟩
        · refine .inl ?_
          simp only [fp]
          rw [hfc]; simp [hm]
end Go.Bv
