/- Equality of structs. Generic: no program. -/
import Derived.Test.YtffpfjnakhpheaaDoorBvM5
import Derived.Laws.StructEq
namespace Go.Bv
open Go Go.RowKit
set_option linter.unusedSimpArgs false
set_option linter.unusedVariables false
/-- Two structs of type T, compared. -/
def StEq (P : Program) (T : Nat) (us vs : List AV) (b : Bool) : Prop := ∀ cs ds : List CV, ers cs = us → ers ds = vs → ∀ (w : World) (x y : Operand),
  (∀ op, (eqGuard op T x y (.agg (flats cs).toArray) (.agg (flats ds).toArray)).run P w = .ok () w) ∧ (Op.equalIn 10000 T (.agg (flats cs).toArray) (.agg (flats ds).toArray)).run P w = .ok b w
class SEq (P : Program) (T : Nat) (us vs : List AV) (b : outParam Bool) : Prop where
  eq : StEq P T us vs b
section
variable {P : Program} {Γ : Tab} {S S' : List AV} {ops : Array Oper} {l : List Oper} {o : Oper} {N : List AV → Prop}
theorem o_seq {T T' : Nat} {x y : Operand} {us vs : List AV} {b : Bool} (ho : o.op = .binOp .eql T x y T') (hx : ard S x = some (.agg us)) (hy : ard S y = some (.agg vs)) (he : StEq P T us vs b) (hp : aput o.dst (.bool b) S = S') : AO P o S S' :=
  hp ▸ es_AO fun K w0 Z Sc a w e h => by
    subst e
    obtain ⟨c, hc, hval, _, _⟩ := h.rd hx
    obtain ⟨d, hd, hvald, _, _⟩ := h.rd hy
    obtain ⟨cs, rfl⟩ : ∃ cs, c = .agg cs := by cases c <;> simp [er] at hc; exact ⟨_, rfl⟩
    obtain ⟨ds, rfl⟩ : ∃ ds, d = .agg ds := by cases d <;> simp [er] at hd; exact ⟨_, rfl⟩
    simp only [er, AV.agg.injEq] at hc hd
    have hv : a.eval x = .agg (flats cs).toArray := hval.symm
    have hw : a.eval y = .agg (flats ds).toArray := hvald.symm
    obtain ⟨h1, h2⟩ := he cs ds hc hd w x y
    have hrun : (execOp a.eval o).run P w = .ok (.value (.bool b)) w := by
      unfold execOp
      simp only [ho, hv, hw, Sem.run_bind, h1, Result.andThen_ok, run_eql_struct, h2, Sem.run_pure]
    exact es_value hrun (Sc' := cput o.dst (.bool b) Sc) (by rw [er_cput]; simp [er]) (h.putRd o.dst (rd_bool b))
theorem o_sne {T T' : Nat} {x y : Operand} {us vs : List AV} {b : Bool} (ho : o.op = .binOp .neq T x y T') (hx : ard S x = some (.agg us)) (hy : ard S y = some (.agg vs)) (he : StEq P T us vs b) (hp : aput o.dst (.bool (!b)) S = S') : AO P o S S' :=
  hp ▸ es_AO fun K w0 Z Sc a w e h => by
    subst e
    obtain ⟨c, hc, hval, _, _⟩ := h.rd hx
    obtain ⟨d, hd, hvald, _, _⟩ := h.rd hy
    obtain ⟨cs, rfl⟩ : ∃ cs, c = .agg cs := by cases c <;> simp [er] at hc; exact ⟨_, rfl⟩
    obtain ⟨ds, rfl⟩ : ∃ ds, d = .agg ds := by cases d <;> simp [er] at hd; exact ⟨_, rfl⟩
    simp only [er, AV.agg.injEq] at hc hd
    have hv : a.eval x = .agg (flats cs).toArray := hval.symm
    have hw : a.eval y = .agg (flats ds).toArray := hvald.symm
    obtain ⟨h1, h2⟩ := he cs ds hc hd w x y
    have hrun : (execOp a.eval o).run P w = .ok (.value (.bool (!b))) w := by
      unfold execOp
      simp only [ho, hv, hw, Sem.run_bind, h1, Result.andThen_ok, run_neq_struct, h2, Sem.run_pure]
    exact es_value hrun (Sc' := cput o.dst (.bool (!b)) Sc) (by rw [er_cput]; simp [er]) (h.putRd o.dst (rd_bool _))
theorem i_seq {T T' : Nat} {x y : Operand} {us vs : List AV} {b : Bool} (hg : gchk ops S o = some true := by first | exact gchk_none rfl | (simp only [go_sem, *]; first | done | fail) | fail) (ho : o.op = .binOp .eql T x y T' := by rfl) (hx : ard S x = some (.agg us) := by simp only [go_sem, *]; first | done | with_reducible rfl) (hy : ard S y = some (.agg vs) := by simp only [go_sem, *]; first | done | with_reducible rfl)
    (he : StEq P T us vs b := by exact SEq.eq) (hp : aput o.dst (.bool b) S = S' := by simp only [go_sem]; first | done | with_reducible rfl) : AL P false ops l S' N → AL P false ops (o :: l) S N := al_op hg (o_seq ho hx hy he hp)
theorem i_sne {T T' : Nat} {x y : Operand} {us vs : List AV} {b : Bool} (hg : gchk ops S o = some true := by first | exact gchk_none rfl | (simp only [go_sem, *]; first | done | fail) | fail) (ho : o.op = .binOp .neq T x y T' := by rfl) (hx : ard S x = some (.agg us) := by simp only [go_sem, *]; first | done | with_reducible rfl) (hy : ard S y = some (.agg vs) := by simp only [go_sem, *]; first | done | with_reducible rfl)
    (he : StEq P T us vs b := by exact SEq.eq) (hp : aput o.dst (.bool (!b)) S = S' := by simp only [go_sem]; first | done | with_reducible rfl) : AL P false ops l S' N → AL P false ops (o :: l) S N := al_op hg (o_sne ho hx hy he hp)
end
end Go.Bv
