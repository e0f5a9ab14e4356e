/- The other quiet operations. Generic: no program. -/
import Derived.Test.YtjmodjanaeoiiaaBvK
namespace Go.Bv
open Go Go.RowKit
set_option linter.unusedSimpArgs false
set_option linter.unusedVariables false
section
variable {K : Nat → Prop} {w0 : World} {Z : Nat → Prop} {Sc L : List CV} {a : Act} {w : World} {P : Program} {Γ : Tab}

/-- What is to be shown of a quiet operation. -/
def QS (P : Program) (a : Act) (w : World) (Z : Nat → Prop) (Sc : List CV) (o : Oper) (v : AV) : Prop :=
  ∃ c, er c = v ∧ (execOp a.eval o).run P w = .ok (.value (val c)) w ∧ Rd w Z Sc c ∧ (∀ xs, c ≠ .tup xs)

theorem rd_scalar {c : CV} (hp : Pl c) (hf : fp c = []) (hk : Ok w Z c) : Rd w Z Sc c := ⟨Pl.refOk _ hp, Pl.wf _ hp, hk, hf, .inl hp⟩
theorem rd_int (k : IntKind) (n : Int) : Rd w Z Sc (.int k n) := rd_scalar (by simp [Pl]) (by simp [fp]) (by simp [Ok])
theorem rd_bool (b : Bool) : Rd w Z Sc (.bool b) := rd_scalar (by simp [Pl]) (by simp [fp]) (by simp [Ok])
theorem rd_str (s : ByteArray) : Rd w Z Sc (.str s) := rd_scalar (by simp [Pl]) (by simp [fp]) (by simp [Ok])
theorem val_int (k : IntKind) (n : Int) : val (.int k n) = .int k n := rfl
theorem val_bool (b : Bool) : val (.bool b) = .bool b := rfl
theorem val_agg (xs : List CV) : val (.agg xs) = .agg (flats xs).toArray := rfl
theorem val_str (s : ByteArray) : val (.str s) = .string s := rfl

theorem indexAddr_sound (hT : TabOk P Γ) (h : Good K w0 Z Sc L a w) {o : Oper} {T : Nat} {x i : Operand} (ho : o.op = .indexAddr T x i) {v : AV} (hv : qv Γ (ers Sc) o = some v) : QS P a w Z Sc o v := by
  simp only [qv, ho] at hv
  cases hk : Γ.kind T <;> simp only [hk] at hv <;> try (cases hv; done)
  rename_i E
  cases hi : ard (ers Sc) i with
  | none => simp [hi] at hv
  | some iv =>
    obtain ⟨ci, hci, hival, _, _⟩ := h.rd hi
    simp only [hi] at hv
    cases iv <;> try (cases hv; done)
    rename_i k n
    have := er_int hci; subst this
    cases hx : ard (ers Sc) x with
    | none => simp [hx] at hv
    | some u =>
      obtain ⟨c, hc, hval, hrd, _⟩ := h.rd hx
      subst hc
      simp only [hx] at hv
      have hrun : ∀ (A : Addr) (m cap : Nat), val c = .slice (some A) m cap → Γ.kind E ≠ .no → 0 ≤ n → n < m →
          (execOp a.eval o).run P w = .ok (.value (.pointer (some (A.add (n.toNat * Γ.size E))))) w := by
        intro A m cap hcv hE h0 h1
        unfold execOp
        simp only [ho]
        rw [← hval, ← hival, hcv, val_int]
        have hs := run_size (P := P) hT hE w
        simp [Instr.indexAt, asIntOf, run_underlying (hT.sl T E hk), h0, h1, hs]
      cases hu : er c <;> simp only [hu] at hv <;> try (cases hv; done)
      · rename_i ob s ys
        obtain ⟨A, cap, xs, rfl, rfl⟩ := er_lst hu
        cases ob
        case true => simp at hv
        dsimp only at hv
        split at hv
        case isFalse => cases hv
        rename_i h0
        cases hy : (ers xs)[n.toNat]? with
        | none => simp [hy] at hv
        | some y =>
          simp only [hy] at hv
          split at hv
          case isFalse => cases hv
          rename_i hE
          simp only [Option.some.injEq] at hv
          subst hv
          rw [ers_eq, List.getElem?_map] at hy
          cases hz : xs[n.toNat]? with
          | none => simp [hz] at hy
          | some z =>
            simp only [hz, Option.map_some, Option.some.injEq] at hy
            subst hy
            have hkk := hrd.ok
            simp only [Ok] at hkk
            obtain ⟨⟨b1, b2, b3⟩, c2, c3, c4⟩ := hkk
            have hlt := (List.getElem?_eq_some_iff.1 hz).1
            rcases b2 with b2 | ⟨ad, rfl, hsp, hcell, hzb⟩
            · omega
            have hwf := hrd.wf
            simp only [Wf] at hwf
            have hpz := (plL_iff xs).1 hwf z (List.mem_of_getElem? hz)
            have hsE : Γ.size E = s := by rw [← hE.2, alen_er]; exact c2 z (List.mem_of_getElem? hz)
            have hoff : (flats (xs.take n.toNat)).length = n.toNat * s := by
              rw [flats_len_of (s := s) fun x hx => c2 x (List.mem_of_mem_take hx)]; simp [Nat.min_eq_left (Nat.le_of_lt hlt)]
            rw [flats_cut hz, cellsAt_append hsp, cellsAt_append (add_spot hsp _), hoff] at hcell
            have hfz : fp z = [] := by
              have := c3 (by trivial)
              rw [fps_cut hz] at this
              simp at this; exact this.2.1
            refine ⟨.ip (ad.add (n.toNat * s)) z, by simp [er], ?_, ⟨by simp [RefOk], by simpa only [Wf] using hpz, ?_, by simp [fp], .inl (by simpa only [Pl] using hpz)⟩, by simp⟩
            · rw [hrun ad xs.length cap (by simp [val, val1, flat]) hE.1 h0 (by omega), hsE]
              simp [val, val1, flat]
            · simp only [Ok]
              exact ⟨add_spot hsp _, by rw [add_block]; exact hzb (by trivial), hcell.2.1, hfz, ((okL_cut hz).1 c4).2.1⟩
      · rename_i r p lo m
        obtain ⟨cv, rfl⟩ := er_ref hu
        split at hv
        case isFalse => cases hv
        rename_i hn
        cases hy : aget (ers Sc) r (p ++ [lo + n.toNat]) with
        | none => simp [hy] at hv
        | some y =>
          simp only [hy] at hv
          split at hv
          case isFalse => cases hv
          rename_i hE
          simp only [Option.some.injEq] at hv
          subst hv
          have hr := hrd.refOk
          simp only [RefOk] at hr
          obtain ⟨x0, s, A, cap, xs, l, hx0, hp, hg, hlo, A', c', rfl, hloc, rfl, hnc, hA0, hA1⟩ := hr
          have hlt : lo + n.toNat < xs.length := by omega
          have hokx := ((okL_cut hx0).1 ((okL_append _ _).1 h.ok).1).2.1
          have hoky : Ok w Z (.lst true s A cap xs) := ok_get p _ _ _ l hg (ok_root hokx).1
          simp only [Ok] at hoky
          obtain ⟨⟨b1, b2, b3⟩, c2, c3, c4⟩ := hoky
          obtain ⟨_, ad, cur, EE, rfl, hsp, hbl, hmx, hroom⟩ := b3 (by trivial) (by omega)
          have hget : cgetN (rootC x0).1 (rootC x0).2 (p ++ [lo + n.toNat]) = some (xs[lo + n.toNat], some (ad.add ((lo + n.toNat) * s))) := by
            rw [get_append, hg]
            simp [cgetN, List.getElem?_eq_getElem hlt]
          have hyy : y = er xs[lo + n.toNat] := by
            have := er_cget (Sc := Sc) (r := r) (p := p ++ [lo + n.toNat]) (y := xs[lo + n.toNat]) (l := some (ad.add ((lo + n.toNat) * s))) (by simp [cget, hx0, hget])
            rw [hy] at this; simpa using this
          have hsE : Γ.size E = s := by rw [← hE.2, hyy, alen_er]; exact c2 _ (List.getElem_mem _)
          refine ⟨.at r (p ++ [lo + n.toNat]) (ad.add ((lo + n.toNat) * s)), by simp [er], ?_, ⟨?_, by simp [Wf], by simp [Ok], by simp [fp], .inr (by simp [NoOwn])⟩, by simp⟩
          · have hA' : A' = some (ad.add (lo * s)) := by rw [hA1 (by omega)]; rfl
            rw [hrun (ad.add (lo * s)) m (cap - lo) (by simp [val, val1, flat, hA']) hE.1 hn.1 hn.2, hsE, add_add hsp, ← Nat.add_mul]
            simp [val, val1, flat]
          · simp only [RefOk]
            exact ⟨x0, _, hx0, hp, hget⟩

theorem field_sound (hT : TabOk P Γ) (h : Good K w0 Z Sc L a w) {o : Oper} {T f : Nat} {x : Operand} (ho : o.op = .field T x f) {v : AV} (hv : qv Γ (ers Sc) o = some v) : QS P a w Z Sc o v := by
  simp only [qv, ho] at hv
  cases hx : ard (ers Sc) x with
  | none => simp [hx] at hv
  | some u =>
    obtain ⟨c, hc, hval, hrd, _⟩ := h.rd hx
    subst hc
    simp only [hx] at hv
    cases hu : er c <;> simp only [hu] at hv <;> try (cases hv; done)
    rename_i ys
    obtain ⟨xs, rfl, rfl⟩ := er_agg hu
    cases hk : Γ.kind T <;> simp only [hk] at hv <;> try (cases hv; done)
    rename_i fs
    cases hy : (ers xs)[f]? with
    | none => simp [hy] at hv
    | some y =>
      simp only [hy] at hv
      cases ht : fs[f]? with
      | none => simp [ht] at hv
      | some t =>
        simp only [ht] at hv
        split at hv
        case isFalse => cases hv
        rename_i hf
        simp only [Option.some.injEq] at hv
        subst hv
        rw [ers_eq, List.getElem?_map] at hy
        cases hz : xs[f]? with
        | none => simp [hz] at hy
        | some z =>
          simp only [hz, Option.map_some, Option.some.injEq] at hy
          subst hy
          obtain ⟨F, fd, i, g1, g2, g3, g4, g5, g6⟩ := fieldOk_run hT hf.1
          have hfd : fd.type = t := by
            obtain ⟨F', hF', _, hall⟩ := hT.st T fs hk
            rw [g1] at hF'
            simp only [Option.some.injEq, TypeDesc.struct.injEq] at hF'
            obtain ⟨fd', q1, q2, _⟩ := hall f t ht
            rw [← hF', g2] at q1
            simp only [Option.some.injEq] at q1
            rw [q1]; exact q2
          have hlen : alens ((ers xs).take f) = (flats (xs.take f)).length := by rw [ers_eq, ← List.map_take, ← ers_eq, alens_er]
          have hkk := hrd.ok
          simp only [Ok] at hkk
          have hrr := hrd.refOk
          simp only [RefOk, refOkL_iff] at hrr
          have hww := hrd.wf
          simp only [Wf, wfL_iff] at hww
          have hmem := List.mem_of_getElem? hz
          have hff := hrd.fp
          simp only [fp] at hff
          rw [fps_cut hz] at hff
          have hsorted : Pl z ∨ NoOwn z := by
            rcases hrd.sorted with hs | hs
            · simp only [Pl, plL_iff] at hs; exact .inl (hs z hmem)
            · simp only [NoOwn, noOwnL_iff] at hs; exact .inr (hs z hmem)
          refine ⟨z, rfl, ?_, ⟨hrr z hmem, hww z hmem, ((okL_cut hz).1 hkk).2.1, by simp at hff; exact hff.2.1, hsorted⟩, fits_not_tup hf.2⟩
          unfold execOp
          simp only [ho]
          rw [← hval]
          have hag := run_isAgg (P := P) hT (fits_kind hf.2) w
          have hsz := run_size (P := P) hT (fits_kind hf.2) w
          have hnt := fits_not_tup hf.2
          simp only [Instr.field, Sem.run_bind, run_underlying g1, Result.andThen_ok, g2, val_agg, asAgg, Sem.run_pure, part, hfd, hag, g3, hlen]
          have hseg := flats_cut hz
          by_cases hagg : ∃ zs, z = .agg zs
          · obtain ⟨zs, rfl⟩ := hagg
            cases e : Γ.kind t with
            | st fs' =>
              have hf2 := hf.2
              simp only [er, fitsA, e, beq_iff_eq, alens_er] at hf2
              simp only [if_true, Sem.run_bind, hsz, Result.andThen_ok, Sem.run_pure, val_agg]
              congr 3
              apply Array.ext'
              simp only [Array.toList_extract, List.extract_eq_take_drop]
              rw [hseg, ← hf2]
              simp [flat]
            | _ => have hf2 := hf.2; simp [er, fitsA, e] at hf2
          · have hfl := flat_one (x := z) fun xs e => hagg ⟨xs, e⟩
            have hv : val z = val1 z := by cases z <;> first | rfl | exact absurd rfl (hnt _)
            have h0 : (flats xs)[(flats (xs.take f)).length]? = some (val1 z) := by
              rw [hseg, List.getElem?_append_right (Nat.le_refl _), hfl]; simp
            cases e : Γ.kind t with
            | st fs' =>
              exfalso
              have hf2 := hf.2
              cases z <;> simp [fitsA, e, er] at hf2
              exact hagg ⟨_, rfl⟩
            | _ => simp [h0, hv]
end
end Go.Bv
