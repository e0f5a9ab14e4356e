/- What slices.Grow needs: the capacity of a list without room; append of n zeros to it. Generic: no program. -/
import Derived.Test.YtjmodjanaeoiiaaBvAr
namespace Go.Bv
open Go Go.RowKit
set_option linter.unusedSimpArgs false
set_option linter.unusedVariables false

section
variable {K : Nat → Prop} {w0 : World} {Z : Nat → Prop} {Sc L : List CV} {a : Act} {w : World} {P : Program} {Γ : Tab} {S : List AV} {ops : Array Oper} {l : List Oper} {o : Oper} {N : List AV → Prop}

/-- A list without room. -/
def noRoom (S : List AV) : AV → Bool
  | .lst true 0 [] => true
  | .ref r p 0 0 => (match aget S r p with | some (.lst true 0 []) => true | _ => false)
  | _ => false
theorem noRoom_sound (h : Good K w0 Z Sc L a w) {x : Operand} {v : AV} (hx : ard (ers Sc) x = some v) (hn : noRoom (ers Sc) v = true) : ∃ A, a.eval x = .slice A 0 0 := by
  obtain ⟨cx, rfl, vx, hrd, hnt⟩ := h.rd hx
  have key : ∀ {A c}, Ok w Z (.lst true 0 A c []) → c = 0 := by
    intro A c hk
    simp only [Ok] at hk
    by_cases hc : c = 0
    · exact hc
    · exact absurd rfl (hk.1.2.2 rfl hc).1
  cases cx with
  | lst o s A c xs =>
    simp only [er] at hn
    cases o with
    | false => simp [noRoom] at hn
    | true => cases s with
      | succ s => simp [noRoom] at hn
      | zero => cases xs with
        | cons q xs => simp [noRoom, ers] at hn
        | nil =>
          have := key hrd.ok
          subst this
          exact ⟨A, by rw [← vx]; rfl⟩
  | ref r p lo m v =>
    have hr := hrd.refOk
    simp only [RefOk] at hr
    obtain ⟨x0, s, A, c, xs, l, q1, q2, q3, hlo, hh⟩ := hr
    simp only [er] at hn
    cases lo with
    | succ lo => simp [noRoom] at hn
    | zero => cases m with
      | succ m => simp [noRoom] at hn
      | zero =>
        have hga : aget (ers Sc) r p = some (.lst true s (ers xs)) := by
          have := er_cget (Sc := Sc) (r := r) (p := p) (y := .lst true s A c xs) (l := l) (by simp [cget, q1, q3])
          simpa [er] using this
        simp only [noRoom, hga] at hn
        cases s with
        | succ s => simp at hn
        | zero => cases xs with
          | cons q xs => simp [ers] at hn
          | nil =>
            have hokx := ((okL_cut q1).1 ((okL_append _ _).1 h.ok).1).2.1
            have hoky : Ok w Z (.lst true 0 A c []) := ok_get p _ _ _ l q3 (ok_root hokx).1
            have := key hoky
            subst this
            obtain ⟨A', c', rfl, hloc, rfl, _⟩ := hh
            exact ⟨A', by rw [← vx]; rfl⟩
  | undef v => simp [er, noRoom] at hn
  | bool v => simp [er, noRoom] at hn
  | int k v => simp [er, noRoom] at hn
  | str v => simp [er, noRoom] at hn
  | agg v => simp [er, noRoom] at hn
  | tup v => simp [er, noRoom] at hn
  | fn f v => simp [er, noRoom] at hn
  | ip b v => simp [er, noRoom] at hn
  | «at» r p b => simp [er, noRoom] at hn
  | box b t v => simp [er, noRoom] at hn

theorem cap0_sound (hT : TabOk P Γ) (h : Good K w0 Z Sc L a w) {T E : Nat} {x : Operand} (ho : o.op = .call { callee := .builtin .cap, args := #[x], argTypes := #[T] }) (hk : Γ.kind T = .sl E) {v : AV} (hx : ard (ers Sc) x = some v) (hn : noRoom (ers Sc) v = true) :
    ES P K w0 Z L a w o (aput o.dst (.int .i64 0) (ers Sc)) := by
  obtain ⟨A, he⟩ := noRoom_sound h hx hn
  have hrun : (execOp a.eval o).run P w = .ok (.value (.int .i64 0)) w := by
    unfold execOp
    simp [ho, resolve, invoke, builtin, he, Builtin.cap_, run_underlying (hT.sl T E hk), goInt]
  refine es_value hrun (Sc' := cput o.dst (.int .i64 0) Sc) (by rw [er_cput]; simp [er]) ?_
  have := (h.add (c := .int .i64 0) (by simp [Ok]) (by simp [fp]) (by simp [NR, Pl])).put o.dst
  simpa [val, val1, flat] using this

theorem run_append_made (t k ty e : TypeId) (i : TypeInfo) (z : Value) (kd : IntKind) (ht : P.underlying t = some (.slice e)) (hk : P.underlying k = some (.int kd)) (hi : P.info? e = some i) (hz : i.zero = some z) (hzs : z.cells.size = i.size)
    (A : Option Addr) (n : Nat) (h0 : 0 < n) (hs : i.size ≠ 0) (h63 : (n : Int) ≤ 9223372036854775807) (h48 : n * i.bytes ≤ 281474976710656) :
    (Builtin.append_ #[t, k] ty #[.slice A 0 0, .int .i64 n]).run P w =
      .ok (.slice (some ⟨w.heap.size, 0, none⟩) n (grownCap w n 0 e)) (w.drew.alloc (.cells (Builtin.zeroCells z.cells n ++ Builtin.zeroCells z.cells (grownCap w n 0 e - n)) e)) := by
  have hn : n ≠ 0 := by omega
  have hw : IntKind.i64.wrap (n : Int) = n := by rw [IntKind.wrap_i64]; omega
  have h0' : ¬ ((n : Int) < 0) := by omega
  have h63' : ¬ (9223372036854775807 < (n : Int)) := by omega
  have h48' : ¬ (281474976710656 < Builtin.nextslicecap n 0 * i.bytes) := by rw [nextslicecap_zero h0]; omega
  have h48'' : ¬ (281474976710656 < (n : Int) * i.bytes) := by rw [← Int.natCast_mul]; omega
  have hns : n * i.size ≠ 0 := Nat.mul_ne_zero hn hs
  have hfo : (Builtin.firstCells i.size 0 (.slice A 0 0)).run P w.drew = .ok #[] w.drew := run_first_none
  simp [Builtin.append_, run_underlying ht, run_underlying hk, sizeOf, typeInfo, zeroValue, hi, hz, hw, h0', asInt, asIntOf, hn, hs, h63', h48', h48'', Question.forced, hfo, newRow, grownCap]
  exact fun h => absurd h hns

theorem size_zeroCells' (v : Array Value) (n : Nat) : (Builtin.zeroCells v n).size = n * v.size := by simp [Builtin.zeroCells]
theorem appendz_sound (hT : TabOk P Γ) (h : Good K w0 Z Sc L a w) {T I E : Nat} {x y : Operand} {ki : IntKind} (ho : o.op = .call { callee := .builtin .append, args := #[x, y], argTypes := #[T, I] }) (hk : Γ.kind T = .sl E) (hI : Γ.kind I = .int ki) (hE : Γ.kind E ≠ .no)
    {z : AV} (hz : Γ.zero E = some z) (hs0 : Γ.size E ≠ 0) {dv : AV} (hx : ard (ers Sc) x = some dv) (hn : noRoom (ers Sc) dv = true) {n : Nat} (hy : ard (ers Sc) y = some (.int .i64 (n : Int))) (h0 : 0 < n)
    (hm : n ≤ 9223372036854775807) (hbnd : n * Γ.bytes E ≤ 140737488355328) :
    ES P K w0 Z L a w o (aput o.dst (.lst true (Γ.size E) (List.replicate n z)) (ers Sc)) := by
  obtain ⟨A, hvx⟩ := noRoom_sound h hx hn
  obtain ⟨hp, i, v, h1, h2, h3, h4⟩ := hT.zero E z hz
  obtain ⟨i', h1', hsz, hby⟩ := hT.size E hE
  rw [h1] at h1'; cases h1'
  obtain ⟨c, e1, e2, e3, e4, e5⟩ := zcells_ok z hp
  obtain ⟨cy, ey, vy, _⟩ := h.rd hy
  have hvy : a.eval y = .int .i64 n := by rw [← vy]; cases cy <;> simp [er] at ey; obtain ⟨rfl, rfl⟩ := ey; rfl
  have hcl : (flat c).length = i.size := by rw [e2, ← h3, Array.length_toList, h4]
  have hgc := grownCap_ge w n 0 E
  have hgm := grownCap_le_maxLen w n 0 E (by unfold maxLen; omega)
  have hrun := run_append_made (P := P) (w := w) T I o.type E i v ki (hT.sl T E hk) (hT.int I ki hI) h1 h2 h4 A n h0 (by rw [hsz]; exact hs0) (by omega) (by rw [hby]; omega)
  obtain ⟨g, hg⟩ : ∃ g, g = grownCap w n 0 E := ⟨_, rfl⟩
  rw [← hg] at hgc hgm hrun
  have hGd : Good K w0 Z Sc L a w.drew := h.world (fun _ _ => rfl) (Nat.le_refl _) rfl rfl rfl
  have hnewb := heap_alloc_new w.drew (.cells (Builtin.zeroCells v.cells n ++ Builtin.zeroCells v.cells (g - n)) E)
  have hG := (hGd.add (c := .bool false) (by simp [Ok]) (by simp [fp]) (by simp [NR, Pl])).block (M := [.bool false]) (c := .lst true i.size (some ⟨w.heap.size, 0, none⟩) g (List.replicate n c)) (o := .cells (Builtin.zeroCells v.cells n ++ Builtin.zeroCells v.cells (g - n)) E) ?_ ?_ ?_
  · refine es_value (w' := w.drew.alloc (.cells (Builtin.zeroCells v.cells n ++ Builtin.zeroCells v.cells (g - n)) E)) (v := .slice (some ⟨w.heap.size, 0, none⟩) n g) ?_ ?_ (by
      have := hG.put o.dst
      simpa [val, val1, flat] using this)
    · unfold execOp
      simp only [ho, resolve, invoke, builtin, Sem.run_bind, Sem.run_pure, Result.andThen_ok, List.map_toArray, List.map_cons, List.map_nil, hvx, hvy, hrun]
    · rw [er_cput]; simp [er, ers_rep, e1, hsz]
  · simp only [fp, fps_rep n c e4, List.append_nil, fps]
    refine Fits.of_sublist ?_
    split <;> simp
  · simp only [Ok]
    refine ⟨⟨by simpa using hgc, ?_, ?_⟩, fun u hu => ?_, fun h0 => by simp at h0, (okL_iff _).2 fun u hu => ?_⟩
    · refine .inr ⟨_, rfl, rfl, ?_, by simp⟩
      rw [cellsAt_iff rfl]
      intro j u hj
      obtain ⟨q1, q2⟩ := flats_rep c n j u hj
      rw [hcl] at q1 q2
      have hc : (w.drew.alloc (.cells (Builtin.zeroCells v.cells n ++ Builtin.zeroCells v.cells (g - n)) E)).cell? ⟨w.heap.size, 0 + j, none⟩ = (Builtin.zeroCells v.cells n ++ Builtin.zeroCells v.cells (g - n))[0 + j]? := by
        simp only [World.cell?]
        have : (w.drew.alloc (.cells (Builtin.zeroCells v.cells n ++ Builtin.zeroCells v.cells (g - n)) E)).heap[w.heap.size]? = _ := hnewb
        rw [this]
        simp
      rw [hc, Nat.zero_add]
      rw [e2, ← h3] at q1
      have hs0' : j % i.size < v.cells.size := by
        have := (List.getElem?_eq_some_iff.1 q1).1
        simpa using this
      rw [Array.getElem?_toList] at q1
      rw [Array.getElem?_append_left (by rw [size_zeroCells', h4]; exact q2)]
      simp only [Builtin.zeroCells, h4, Array.getElem?_map]
      have hr : (Array.range (n * i.size))[j]? = some j := by simp [q2]
      rw [hr]
      simp only [Option.map_some]
      rw [Array.getElem?_eq_getElem hs0'] at q1
      rw [← q1, getElem!_pos v.cells _ hs0']
    · intro _ hc0
      refine ⟨by rw [hsz]; exact hs0, _, _, _, rfl, rfl, hnewb, hgm, ?_⟩
      simp only [Array.size_append, size_zeroCells', h4, ← Nat.add_mul, Nat.zero_add]
      exact Nat.mul_le_mul_right _ (by omega)
    · rw [List.eq_of_mem_replicate hu]; exact hcl
    · rw [List.eq_of_mem_replicate hu]; exact e5 _ _
  · simp only [NR, Pl]
    rw [plL_iff]
    intro u hu
    rw [List.eq_of_mem_replicate hu]; exact e3

theorem al_cap0 (hT : TabOk P Γ) {T E : Nat} {x : Operand} {v : AV} {S' : List AV} (hg : gchk ops S o = some true) (ho : o.op = .call { callee := .builtin .cap, args := #[x], argTypes := #[T] }) (hk : Γ.kind T = .sl E) (hx : ard S x = some v) (hn : noRoom S v = true)
    (hp : aput o.dst (.int .i64 0) S = S') (h : AL P false ops l S' N) : AL P false ops (o :: l) S N := by
  subst hp
  exact al_op hg (es_AO fun K w0 Z Sc a w e hG => by subst e; exact cap0_sound hT hG ho hk hx hn) h
theorem al_appendz (hT : TabOk P Γ) {T I E : Nat} {x y : Operand} {ki : IntKind} {z dv : AV} {n : Nat} {S' : List AV} (hg : gchk ops S o = some true) (ho : o.op = .call { callee := .builtin .append, args := #[x, y], argTypes := #[T, I] }) (hk : Γ.kind T = .sl E) (hI : Γ.kind I = .int ki) (hE : Γ.kind E ≠ .no)
    (hz : Γ.zero E = some z) (hs0 : Γ.size E ≠ 0) (hx : ard S x = some dv) (hn : noRoom S dv = true) (hy : ard S y = some (.int .i64 (n : Int))) (h0 : 0 < n)
    (hm : n ≤ 9223372036854775807) (hbnd : n * Γ.bytes E ≤ 140737488355328) (hp : aput o.dst (.lst true (Γ.size E) (List.replicate n z)) S = S') (h : AL P false ops l S' N) : AL P false ops (o :: l) S N := by
  subst hp
  exact al_op hg (es_AO fun K w0 Z Sc a w e hG => by subst e; exact appendz_sound hT hG ho hk hI hE hz hs0 hx hn hy h0 hm hbnd) h
end
end Go.Bv
