/- The store operation; literals of structs and slices. Generic: no program. -/
import Derived.Test.YtjmodjanaeoiiaaBvQ
import Derived.Laws.MakeOwn
import Derived.Great.BuildSlice
namespace Go.Bv
open Go Go.RowKit
set_option linter.unusedSimpArgs false
set_option linter.unusedVariables false
section
variable {K : Nat → Prop} {w0 : World} {Z : Nat → Prop} {Sc L : List CV} {a : Act} {w : World} {P : Program} {Γ : Tab}

theorem stored_setRow {g o : Nat} {cur : Array Value} {E : TypeId} {vs : List Value} (hg : w.heap[g]? = some (.cells cur E (0, 0))) (hl : o + vs.length ≤ cur.size) :
    Stored w (w.setRow g (cur.toList.take o ++ vs ++ cur.toList.drop (o + vs.length)).toArray) ⟨g, o, none⟩ vs.length ∧ CellsAt (w.setRow g (cur.toList.take o ++ vs ++ cur.toList.drop (o + vs.length)).toArray) ⟨g, o, none⟩ vs := by
  have hrow := setRow_heap w g cur (cur.toList.take o ++ vs ++ cur.toList.drop (o + vs.length)).toArray E _ hg
  have hlen : (cur.toList.take o).length = o := by simp; omega
  refine ⟨⟨fun b hb => setRow_other w g b _ hb, fun cur' E' h' => ?_, fun k hk => ?_⟩, ?_⟩
  · simp only at h'
    rw [hg] at h'
    simp only [Option.some.injEq, Obj.cells.injEq] at h'
    obtain ⟨rfl, rfl, _⟩ := h'
    refine ⟨_, hrow, ?_⟩
    simp; omega
  · simp only [World.cell?, hrow, hg, Option.isSome_none, Bool.false_eq_true, if_false] at hk ⊢
    simp only [List.getElem?_toArray]
    rcases hk with hk | hk
    · rw [List.append_assoc, List.getElem?_append_left (by rw [hlen]; exact hk), List.getElem?_take_of_lt hk]
      simp
    · rw [List.getElem?_append_right (by simp; omega), List.getElem?_drop]
      simp only [List.length_append, hlen]
      rw [show o + vs.length + (k - (o + vs.length)) = k by omega]
      simp
  · rw [cellsAt_iff rfl]
    intro j v hj
    have hlt := (List.getElem?_eq_some_iff.1 hj).1
    simp only [World.cell?, hrow, Option.isSome_none, Bool.false_eq_true, if_false, List.getElem?_toArray]
    rw [List.append_assoc, List.getElem?_append_right (by rw [hlen]; omega), hlen, show o + j - o = j by omega, List.getElem?_append_left hlt]
    exact hj

theorem asetq_eq (h : Good K w0 Z Sc L a w) {r : Nat} {p : List Nat} {x0 y c : CV} {l : Option Addr} (hx : Sc[r]? = some x0) (hp : Pl (rootC x0).1) (hg : cgetN (rootC x0).1 (rootC x0).2 p = some (y, l)) (hc : Pl c)
    (hs : scalarA (er y) = true) : ∀ u ∈ Sc, hit r p u = false := by
  -- nothing leans below a scalar
  have key : ∀ q (z : CV) lz, cgetN (rootC x0).1 (rootC x0).2 (p ++ q) = some (z, lz) → q = [] := by
    intro q z lz hq
    rw [get_append, hg] at hq
    simp only [Option.bind_some] at hq
    cases q with
    | nil => rfl
    | cons i q => cases y <;> simp [scalarA, er] at hs <;> simp [cgetN] at hq
  have keyref : ∀ q s A c' xs lz, cgetN (rootC x0).1 (rootC x0).2 q = some (.lst true s A c' xs, lz) → p.isPrefixOf q = false := by
    intro q s A c' xs lz hq
    cases hpre : p.isPrefixOf q with
    | false => rfl
    | true =>
      obtain ⟨q', rfl⟩ := List.isPrefixOf_iff_prefix.1 hpre
      have := key q' _ _ hq
      subst this
      rw [List.append_nil, hg] at hq
      simp only [Option.some.injEq, Prod.mk.injEq] at hq
      rw [hq.1] at hs; simp [scalarA, er] at hs
  have main : (∀ u, RefOk Sc u → hit r p u = false) := by
    intro u
    refine CV.rec (motive_1 := fun u => RefOk Sc u → hit r p u = false) (motive_2 := fun us => RefOkL Sc us → hits r p us = false) ?_ ?_ ?_ ?_ ?_ ?_ ?_ ?_ ?_ ?_ ?_ ?_ ?_ ?_ u
    all_goals try (intros; simp [hit]; done)
    · intro xs ih h; simp only [RefOk] at h; simp only [hit]; exact ih h
    · intro xs ih h; simp only [RefOk] at h; simp only [hit]; exact ih h
    · intro f xs ih h; simp only [RefOk] at h; simp only [hit]; exact ih h
    · intro r' q ad h
      simp only [RefOk] at h
      obtain ⟨x1, y1, h1, h2, h3⟩ := h
      simp only [hit]
      by_cases e : r = r'
      · subst e
        rw [hx] at h1; cases h1
        cases hpre : p.isPrefixOf q with
        | false => simp
        | true =>
          obtain ⟨q', rfl⟩ := List.isPrefixOf_iff_prefix.1 hpre
          have := key q' _ _ h3
          subst this; simp
      · simp [e]
    · intro r' q lo n v h
      simp only [RefOk] at h
      obtain ⟨x1, s, A, c', xs, l', h1, h2, h3, _⟩ := h
      simp only [hit]
      by_cases e : r = r'
      · subst e
        rw [hx] at h1; cases h1
        rw [keyref q s A c' xs l' h3]; simp
      · simp [e]
    · intro _; simp [hits]
    · intro x xs ih1 ih2 h
      simp only [RefOkL] at h
      simp only [hits, ih1 h.1, ih2 h.2, Bool.or_self]
  exact fun u hu => main u (h.refs u hu)

theorem cclr_id {r : Nat} {p : List Nat} : ∀ {xs : List CV}, (∀ u ∈ xs, hit r p u = false) → cclr r p xs = xs := by
  intro xs h
  simp only [cclr]
  conv => rhs; rw [← List.map_id xs]
  apply List.map_congr_left
  intro u hu
  simp [h u hu]

theorem store_sound (hT : TabOk P Γ) (h : Good K w0 Z Sc L a w) {o : Oper} {T : Nat} {x y : Operand} (ho : o.op = .store T x y) (hdst : o.dst = none) {r : Nat} {p : List Nat} {v : AV} (hx : ard (ers Sc) x = some (.at r p)) (hy : ard (ers Sc) y = some v)
    (hno : (arefs v).any (fun rp => hitA rp.1 rp.2 (.at r p)) = false) {v' : AV} {S' : List AV} (ht : atake (ers Sc) v = some (v', S')) {old : AV} (hold : aget S' r p = some old) (hk : Γ.kind T ≠ .no) (hsz : alen v' = Γ.size T) (hso : alen old = Γ.size T) :
    ES P K w0 Z L a w o (asetq S' r p v' old) := by
  obtain ⟨cx, hcx, hvx, hrx, _⟩ := h.rd hx
  obtain ⟨ad, rfl⟩ := er_at hcx
  obtain ⟨c, rfl, hval, hrd, hnt⟩ := h.rd hy
  obtain ⟨u, Sc', e1, e2, hG, hfl, hpl, hag, hrf⟩ := take_good c Sc L h hrd.refOk hrd.wf hrd.ok hrd.fp v' S' ht
  have hrx' : RefOk Sc' (.at r p ad) := by
    refine hrf _ hrx.refOk fun rp hrp => ?_
    have hh : hitA rp.1 rp.2 (.at r p) = false := by
      simp only [refs_er, List.any_eq_false] at hno
      simpa using hno rp hrp
    have := hit_er rp.1 rp.2 (.at r p ad)
    simp only [er] at this
    rw [← this]; exact hh
  obtain ⟨x0, z, h1, h2, h3, h4, h5, h6, h7, h8⟩ := hG.node hrx'
  rw [e2, hold] at h8
  simp only [Option.some.injEq] at h8
  subst h8
  have hlu : (flat u).length = (flat z).length := by rw [← alen_er, ← alen_er, e1, hsz, hso]
  -- the room
  have hokx := ((okL_cut h1).1 ((okL_append _ _).1 hG.ok).1).2.1
  have hloc := loc_get p _ _ z ad h3 (ok_root hokx).1 (fun b hb => by
    rcases root_cases h2 with ⟨b', ty, z', rfl, hz⟩ | ⟨hz, hrt, hcs⟩
    · simp only [rootC, Option.some.injEq] at hb ⊢
      subst hb
      simp only [Ok] at hokx
      exact ⟨rfl, _, ty, hokx.1, by simp⟩
    · rw [hrt] at hb; cases hb)
  obtain ⟨⟨cur, E, hb, hroom⟩, hsp, _, _⟩ := hloc
  have hroom' : ad.off + (flat u).length ≤ cur.size := by omega
  obtain ⟨hst, hnew⟩ := stored_setRow (w := w) (vs := flat u) hb hroom'
  have had : (⟨ad.block, ad.off, none⟩ : Addr) = ad := by cases ad; simp_all
  rw [had] at hst hnew
  obtain ⟨W, hW⟩ : ∃ W, W = w.setRow ad.block (cur.toList.take ad.off ++ flat u ++ cur.toList.drop (ad.off + (flat u).length)).toArray := ⟨_, rfl⟩
  rw [← hW] at hst hnew
  rw [hlu] at hst
  obtain ⟨hG2, _⟩ := hG.store h1 h2 h3 hpl hlu hst hnew (by rw [hW]; exact size_setRow _ _ _) (by rw [hW]; rfl) (by rw [hW]; rfl) (by rw [hW]; rfl)
  refine es_skip (w' := W) ?_ ?_ ?_ (Sc' := csetc Sc' r p u)
  · unfold execOp
    simp only [ho]
    have hvu : val u = val c := val_same hfl hpl hag hnt
    have hvx' : a.eval x = .pointer (some ad) := by rw [← hvx]; rfl
    have hsize := run_size (P := P) hT hk w
    have hcs : (val u).cells = (flat u).toArray := cells_val hpl
    have hcell := run_storeCells_at P ad.block ad.off E (flat u) 0 cur w hb (by simpa using hroom') (Pl.one u hpl)
    rw [had] at hcell
    simp only [Nat.add_zero] at hcell
    rw [hvx', ← hval, ← hvu]
    have hne : ((flat u).toArray).size = Γ.size T := by rw [← hsz, ← e1, alen_er]; simp
    simp only [Instr.storeAt, Instr.sureAddr, Sem.run_bind, Sem.run_pure, Result.andThen_ok, storeVar, hcs, hsize, hne, ne_eq, not_true, if_false, hcell, hW]
  · unfold asetq
    split
    · rename_i hsc
      have hid := asetq_eq hG h1 h2 h3 hpl hsc.1
      have hx0c : (cset Sc' r p u) = csetc Sc' r p u := by
        unfold csetc
        refine (cclr_id fun q hq => ?_).symm
        unfold cset at hq
        rw [h1] at hq
        rcases List.mem_or_eq_of_mem_set hq with hq | rfl
        · exact hid q hq
        · exact root_hit (by rw [rootC_csetR h2 hpl]; exact Pl.set p _ u h2 hpl)
      rw [← hx0c, er_cset, e2, e1]
    · rw [er_csetc, e2, e1]
  · rw [hdst]; exact hG2
end
end Go.Bv
