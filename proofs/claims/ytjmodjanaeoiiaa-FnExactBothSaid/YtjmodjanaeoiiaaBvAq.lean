/- Steps: append, literals, bytes to text. Generic: no program. -/
import Derived.Test.YtjmodjanaeoiiaaBvIr
import Derived.Laws.BytesArg
namespace Go.Bv
open Go Go.RowKit
set_option linter.unusedSimpArgs false
set_option linter.unusedVariables false

/-- The bytes of a list of these. -/
def byteOf : AV → UInt8
  | .int _ n => UInt8.ofNat n.toNat
  | _ => 0
def isByte : AV → Bool
  | .int .u8 _ => true
  | _ => false
def bytesOf (ys : List AV) : ByteArray := ⟨(ys.map byteOf).toArray⟩
section
variable {K : Nat → Prop} {w0 : World} {Z : Nat → Prop} {Sc L : List CV} {a : Act} {w : World} {P : Program} {Γ : Tab} {S : List AV} {ops : Array Oper} {l : List Oper} {o : Oper} {N : List AV → Prop}

theorem al_append (hT : TabOk P Γ) {T E : Nat} {x y : Operand} {z dv ev : AV} {s : Nat} {xs ys S' S'' : List AV} (hg : gchk ops S o = some true) (ho : o.op = .call { callee := .builtin .append, args := #[x, y], argTypes := #[T, T] }) (hk : Γ.kind T = .sl E) (hE : Γ.kind E ≠ .no)
    (hz : Γ.zero E = some z) (hs0 : Γ.size E ≠ 0) (hx : ard S x = some dv) (ht : atake S dv = some (.lst true s xs, S')) (hs : (s = 0 ∧ xs = []) ∨ s = Γ.size E)
    (hy : ard S y = some ev) (hel : aels S ev = some ys) (hys : ys.all (fun u => alen u == Γ.size E) = true)
    (hm : xs.length + ys.length ≤ 9223372036854775807) (hbnd : (xs.length + ys.length) * Γ.bytes E ≤ 140737488355328) (hp : aput o.dst (.lst true (Γ.size E) (xs ++ ys)) S' = S'') (h : AL P false ops l S'' N) : AL P false ops (o :: l) S N := by
  subst hp
  exact al_op hg (ao_append hT ho hk hE hz hs0 hx ht hs hy hel hys hm hbnd) h
theorem al_build (hT : TabOk P Γ) {T : Nat} {parts : Array (Nat × Operand)} {fs : List Nat} {zs vs vs' S' S'' : List AV} (hg : gchk ops S o = some true) (ho : o.op = .build T parts) (hk : Γ.kind T = .st fs) (hz : Γ.zero T = some (.agg zs))
    (hb : bldOk Γ T fs zs = true) (hvs : ards S (parts.toList.map (·.2)) = some vs) (ht : atakes S vs = some (vs', S')) (hc : bldChk zs ((parts.toList.map (·.1)).zip vs') = true)
    (hp : aput o.dst (.agg (asetAll zs ((parts.toList.map (·.1)).zip vs'))) S' = S'') (h : AL P false ops l S'' N) : AL P false ops (o :: l) S N := by
  subst hp
  exact al_op hg (ao_build hT ho hk hz hb hvs ht hc) h
theorem al_bslice (hT : TabOk P Γ) {T E n : Nat} {parts : Array (Nat × Operand)} {z : AV} {vs vs' S' S'' : List AV} (hg : gchk ops S o = some true) (ho : o.op = .buildSlice T n parts) (hk : Γ.kind T = .sl E) (hE : Γ.kind E ≠ .no) (hz : Γ.zero E = some z)
    (hs0 : Γ.size E ≠ 0) (hn : n * Γ.size E ≤ 16777216) (hvs : ards S (parts.toList.map (·.2)) = some vs) (ht : atakes S vs = some (vs', S')) (hc : bldChk (List.replicate n z) ((parts.toList.map (·.1)).zip vs') = true)
    (hp : aput o.dst (.lst true (Γ.size E) (asetAll (List.replicate n z) ((parts.toList.map (·.1)).zip vs'))) S' = S'') (h : AL P false ops l S'' N) : AL P false ops (o :: l) S N := by
  subst hp
  exact al_op hg (ao_buildSlice hT ho hk hE hz hs0 hn hvs ht hc) h
theorem as_append (hT : TabOk P Γ) {T E : Nat} {x y : Operand} {z dv ev : AV} {s : Nat} {xs ys S' S'' : List AV} (hg : gchk ops S o = some true) (ho : o.op = .call { callee := .builtin .append, args := #[x, y], argTypes := #[T, T] }) (hk : Γ.kind T = .sl E) (hE : Γ.kind E ≠ .no)
    (hz : Γ.zero E = some z) (hs0 : Γ.size E ≠ 0) (hx : ard S x = some dv) (ht : atake S dv = some (.lst true s xs, S')) (hs : (s = 0 ∧ xs = []) ∨ s = Γ.size E)
    (hy : ard S y = some ev) (hel : aels S ev = some ys) (hys : ys.all (fun u => alen u == Γ.size E) = true)
    (hm : xs.length + ys.length ≤ 9223372036854775807) (hbnd : (xs.length + ys.length) * Γ.bytes E ≤ 140737488355328) (hp : aput o.dst (.lst true (Γ.size E) (xs ++ ys)) S' = S'') : AS P ops o S S'' := by
  subst hp
  exact .inl ⟨hg, ao_append hT ho hk hE hz hs0 hx ht hs hy hel hys hm hbnd⟩
theorem as_build (hT : TabOk P Γ) {T : Nat} {parts : Array (Nat × Operand)} {fs : List Nat} {zs vs vs' S' S'' : List AV} (hg : gchk ops S o = some true) (ho : o.op = .build T parts) (hk : Γ.kind T = .st fs) (hz : Γ.zero T = some (.agg zs))
    (hb : bldOk Γ T fs zs = true) (hvs : ards S (parts.toList.map (·.2)) = some vs) (ht : atakes S vs = some (vs', S')) (hc : bldChk zs ((parts.toList.map (·.1)).zip vs') = true)
    (hp : aput o.dst (.agg (asetAll zs ((parts.toList.map (·.1)).zip vs'))) S' = S'') : AS P ops o S S'' := by
  subst hp
  exact .inl ⟨hg, ao_build hT ho hk hz hb hvs ht hc⟩
theorem as_bslice (hT : TabOk P Γ) {T E n : Nat} {parts : Array (Nat × Operand)} {z : AV} {vs vs' S' S'' : List AV} (hg : gchk ops S o = some true) (ho : o.op = .buildSlice T n parts) (hk : Γ.kind T = .sl E) (hE : Γ.kind E ≠ .no) (hz : Γ.zero E = some z)
    (hs0 : Γ.size E ≠ 0) (hn : n * Γ.size E ≤ 16777216) (hvs : ards S (parts.toList.map (·.2)) = some vs) (ht : atakes S vs = some (vs', S')) (hc : bldChk (List.replicate n z) ((parts.toList.map (·.1)).zip vs') = true)
    (hp : aput o.dst (.lst true (Γ.size E) (asetAll (List.replicate n z) ((parts.toList.map (·.1)).zip vs'))) S' = S'') : AS P ops o S S'' := by
  subst hp
  exact .inl ⟨hg, ao_buildSlice hT ho hk hE hz hs0 hn hvs ht hc⟩

theorem flats_bytes : ∀ (ys : List CV), (ers ys).all isByte = true → ∃ ns : List Int, flats ys = ns.map (Value.int .u8) ∧ ns.length = ys.length ∧ (ers ys).map byteOf = ns.map (fun n => UInt8.ofNat n.toNat)
  | [], _ => ⟨[], rfl, rfl, rfl⟩
  | y :: ys, h => by
    simp only [ers, List.all_cons, Bool.and_eq_true] at h
    obtain ⟨ns, h1, h2, h3⟩ := flats_bytes ys h.2
    have h0 := h.1
    cases y <;> simp only [er, isByte] at h0 <;> try (cases h0; done)
    rename_i k n
    cases k <;> simp only [isByte] at h0 <;> try (cases h0; done)
    exact ⟨n :: ns, by simp [flats, flat, h1], by simp [h2], by simp only [ers, er, List.map_cons, byteOf, h3]⟩
theorem bstr_sound (hT : TabOk P Γ) (h : Good K w0 Z Sc L a w) {T D E : Nat} {x : Operand} (ho : o.op = .convert T D x) (hk : Γ.kind T = .sl E) (hE : Γ.kind E = .int .u8) (hD : Γ.kind D = .str) {v : AV} (hx : ard (ers Sc) x = some v) {ys : List AV} (hel : aels (ers Sc) v = some ys)
    (hby : ys.all isByte = true) : ES P K w0 Z L a w o (aput o.dst (.str (bytesOf ys)) (ers Sc)) := by
  obtain ⟨B, cb, ysC, vy, rfl, p1, p2, p3, p4⟩ := els_sound h hx hel
  obtain ⟨ns, n1, n2, n3⟩ := flats_bytes ysC hby
  have hG := (h.add (c := .str (bytesOf (ers ysC))) (by simp [Ok]) (by simp [fp]) (by simp [NR, Pl])).put o.dst
  refine es_value (v := .string (bytesOf (ers ysC))) (w' := w) ?_ (Sc' := cput o.dst (.str (bytesOf (ers ysC))) Sc) (by rw [er_cput]; simp [er]) hG
  have hrun : (convert T D (.slice B ysC.length cb)).run P w = .ok (.string (bytesOf (ers ysC))) w := by
    rw [run_convert_bytes_string w T D E B ysC.length cb (hT.sl T E hk) (hT.int E .u8 hE) (hT.str D hD)]
    have hres : bytesOf (ers ysC) = ns.foldl (fun r n => r.push (UInt8.ofNat n.toNat)) ByteArray.empty := by
      rw [foldl_push_bytes]
      simp only [bytesOf, n3, ByteArray.empty, ByteArray.emptyWithCapacity]
      congr 1
      simp
      try rfl
    cases B with
    | none =>
      have hy0 : ysC = [] := by
        rcases p4 with p4 | ⟨b, hb, _⟩
        · exact List.eq_nil_of_length_eq_zero p4
        · cases hb
      subst hy0
      have : ns = [] := List.eq_nil_of_length_eq_zero (by simpa using n2)
      subst this
      simp [Conv.bytesToString, hres]
    | some b =>
      have hl : (loadCells b ysC.length).run P w = .ok (ns.map (Value.int .u8)).toArray w := by
        have hc : ∀ j u, (ns.map (Value.int .u8))[j]? = some u → w.cell? (b.add j) = some u := by
          rcases p4 with p4 | ⟨b', hb, hc⟩
          · intro j u hj
            have : ns = [] := List.eq_nil_of_length_eq_zero (by omega)
            subst this; simp at hj
          · simp only [Option.some.injEq] at hb
            subst hb
            rw [← n1]; exact hc
        have := run_loadCells_list (P := P) w b (ns.map (Value.int .u8)) hc
        simpa [n2] using this
      rw [run_bytesToString w b ysC.length cb ns hl, hres]
  unfold execOp
  simp only [ho, Sem.run_bind, vy, hrun, Result.andThen_ok]
  first | rfl | simp
theorem ao_bstr (hT : TabOk P Γ) {T D E : Nat} {x : Operand} (ho : o.op = .convert T D x) (hk : Γ.kind T = .sl E) (hE : Γ.kind E = .int .u8) (hD : Γ.kind D = .str) {v : AV} (hx : ard S x = some v) {ys : List AV} (hel : aels S v = some ys)
    (hby : ys.all isByte = true) : AO P o S (aput o.dst (.str (bytesOf ys)) S) := es_AO fun K w0 Z Sc a w e hG => by subst e; exact bstr_sound hT hG ho hk hE hD hx hel hby
theorem al_bstr (hT : TabOk P Γ) {T D E : Nat} {x : Operand} {v : AV} {ys S' : List AV} (hg : gchk ops S o = some true) (ho : o.op = .convert T D x) (hk : Γ.kind T = .sl E) (hE : Γ.kind E = .int .u8) (hD : Γ.kind D = .str) (hx : ard S x = some v) (hel : aels S v = some ys)
    (hby : ys.all isByte = true) (hp : aput o.dst (.str (bytesOf ys)) S = S') (h : AL P false ops l S' N) : AL P false ops (o :: l) S N := by
  subst hp
  exact al_op hg (ao_bstr hT ho hk hE hD hx hel hby) h
end
end Go.Bv
