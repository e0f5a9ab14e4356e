/- Draws: the cursor, a byte, a number below another. -/
import Derived.Test.YtffpfjnakhpheaaDoorKA
import Derived.Test.YtffpfjnakhpheaaDoorBvM5
import Derived.Test.YtffpfjnakhpheaaDoorBvFz
namespace Go.Proofs.YtffpfjnakhpheaaDoor
open Go Go.RowKit Go.Bv
set_option linter.unusedSimpArgs false
set_option linter.unusedVariables false
set_option maxRecDepth 4000
set_option maxHeartbeats 4000000
/-! The walks that end. -/
theorem sFnDa29 {p q : Prop} (k : q) (h : q → p := by
  first
  | exact shAR 2 (by exact i_S hT [[], [0], [0, 1], [0, 1, 2], [0, 1, 2, 3], [], [5], [5, 6], [5, 6, 7], [5, 6, 7, 8], [0, 1, 2, 3, 4, 5, 6, 7, 8, 9], [0, 1, 2, 3, 4, 5, 6, 7, 8, 9, 10], [0, 1, 2, 3, 4, 5, 6, 7, 8, 9, 10, 11]] [13, 14, 15, 16, 17, 18, 19, 20, 21, 22, 23, 24, 3])
  | exact shAR 3 (by exact i_S hT [[], [0], [0, 1], [0, 1, 2], [], [4], [4, 5], [4, 5, 6], [4, 5, 6, 7], [0, 1, 2, 3, 4, 5, 6, 7, 8]] [25, 26, 27, 28, 29, 30, 31, 32, 33, 34])
  | exact shAR 4 (by exact i_S hT [[], [], [1], [1, 2], [1, 2, 3], [], [5], [5, 6], [5, 6, 7], [1, 2, 3, 4, 5, 6, 7, 8], [1, 2, 3, 4, 5, 6, 7, 8, 9], [1, 2, 3, 4, 5, 6, 7, 8, 9, 10], [0, 1, 2, 3, 4, 5, 6, 7, 8, 9, 10, 11], [0, 1, 2, 3, 4, 5, 6, 7, 8, 9, 10, 11, 12], [0, 1, 2, 3, 4, 5, 6, 7, 8, 9, 10, 11, 12, 13]] [35, 36, 37, 38, 39, 40, 41, 42, 43, 44, 45, 46, 47, 48, 3])
  | exact i1
  | fail) : p := h k
theorem wFnDa29_0 {p : Prop} (h : p := by
  have E0 := @encCur.eq_1
  have E1 := @encU8.eq_1
  refine snd_B hT Tryd.func29 Tryd.results29 Tryd.ntmps29 ?_
  repeat' (first | refine sFnDa29 ?_ | (refine two ?_ ?_; all_goals (intro h; try simp only [Bool.not_eq_true', Bool.not_eq_false', reduceCtorEq] at h)) | fail)
  all_goals (simp only [go_sem, *]; first | done | rfl)) : p := h
theorem wFnDa23_0 {p : Prop} (h : p := by
  have E0 := @encCur.eq_1
  refine snd_B hT Tryd.func23 Tryd.results23 Tryd.ntmps23 ?_
  exact wk) : p := h
theorem wFnDa14_0 {p : Prop} (h : p := by
  have E0 := @encCur.eq_1
  refine snd_B hT Tryd.func14 Tryd.results14 Tryd.ntmps14 ?_
  exact wk) : p := h
theorem wFnDa12_0 {p : Prop} (h : p := by
  have E0 := @encCur.eq_1
  refine snd_B hT Tryd.func12 Tryd.results12 Tryd.ntmps12 ?_
  exact wk) : p := h

/-- A cursor over the bytes of a draw. -/
structure CurV where
  b : List Int
  i : Int
  h : Int
  len : b.length ≤ 1048576
  lo : 0 ≤ i
  hi : i ≤ b.length
  by' : ∀ x ∈ b, 0 ≤ x ∧ x ≤ 255
def encU8 (n : Int) : AV := .int .u8 n
def encCur (y : CurV) : AV := .agg [.lst false 1 (y.b.map encU8), .int .i64 y.i, .int .i64 y.h]
theorem ashs_U8 (f : List Int) : ashs (f.map encU8) = f.map encU8 := ashs_map (g := encU8) (h := encU8) (fun x => rfl) f
theorem plAs_U8 (f : List Int) : plAs (f.map encU8) = true := plAs_map (g := encU8) (fun x => rfl) f
theorem alen_U8 (f : List Int) : ((f.map encU8).all fun u => alen u == 1) = true := alen_map (g := encU8) (fun x => rfl) f
theorem leafAs_U8 (f : List Int) : leafAs (f.map encU8) = true := leafAs_map (g := encU8) (fun x => rfl) f
attribute [go_sem] ashs_U8 plAs_U8 alen_U8 leafAs_U8
theorem and255 (a : Int) : 0 ≤ IntKind.i64.wrap ((BitVec.ofInt IntKind.i64.bits a &&& BitVec.ofInt IntKind.i64.bits 255).toNat : Int) ∧ IntKind.i64.wrap ((BitVec.ofInt IntKind.i64.bits a &&& BitVec.ofInt IntKind.i64.bits 255).toNat : Int) ≤ 255 := by
  have h : (BitVec.ofInt IntKind.i64.bits a &&& BitVec.ofInt IntKind.i64.bits 255).toNat ≤ 255 := by
    rw [BitVec.toNat_and]
    refine Nat.le_trans Nat.and_le_right ?_
    decide
  rw [wrap_small] <;> omega
theorem byte_of {y : CurV} {a i' H : Int} (h0 : 0 ≤ i') (h1 : i' ≤ y.b.length)
    (h : SoundB P 29 [.box (encCur y)] 0 (.int .i64 (IntKind.i64.wrap ((BitVec.ofInt IntKind.i64.bits a &&& BitVec.ofInt IntKind.i64.bits 255).toNat : Int))) (.box (.agg [.lst false 1 (y.b.map encU8), .int .i64 i', .int .i64 H]))) :
    ∃ (x : Int) (y' : CurV), SoundB P 29 [.box (encCur y)] 0 (.int .i64 x) (.box (encCur y')) ∧ 0 ≤ x ∧ x ≤ 255 := ⟨_, ⟨y.b, i', H, y.len, h0, h1, y.by'⟩, h, (and255 a).1, (and255 a).2⟩
theorem ex_l1Byte (y : CurV) : ∃ (x : Int) (y' : CurV), SoundB P 29 [.box (encCur y)] 0 (.int .i64 x) (.box (encCur y')) ∧ 0 ≤ x ∧ x ≤ 255 := by
  obtain ⟨b, i, h, h1, h2, h3, h4⟩ := y
  have hl : b.length < 4611686018427387904 := by omega
  have c33 : (min (33 : Int).toNat IntKind.i64.bits) = 33 := rfl
  have c45 : (min (45 : Int).toNat IntKind.i64.bits) = 45 := rfl
  by_cases hlt : i < b.length
  · obtain ⟨j, rfl⟩ : ∃ j : Nat, i = j := ⟨i.toNat, by omega⟩
    have hjl : j < b.length := by omega
    obtain ⟨x, hx⟩ : ∃ x, b[j]? = some x := ⟨b[j], List.getElem?_eq_getElem hjl⟩
    have hxb := h4 x (List.mem_of_getElem? hx)
    have hd : decide ((j : Int) < (b.length : Int)) = true := decide_eq_true hlt
    have hwx : IntKind.i64.wrap x = x := by rw [wrap_small] <;> omega
    have hwj : IntKind.i64.wrap ((j : Int) + 1) = ((j + 1 : Nat) : Int) := by rw [wrap_small] <;> omega
    apply byte_of (i' := ((j + 1 : Nat) : Int)) (by omega) (by simp only; omega)
    exact wFnDa29_0
  · have hd : decide (i < (b.length : Int)) = false := decide_eq_false hlt
    apply byte_of (i' := i) h2 h3
    exact wFnDa29_0
noncomputable def byteV (y : CurV) : Int := (ex_l1Byte y).choose
noncomputable def byteC (y : CurV) : CurV := (ex_l1Byte y).choose_spec.choose
theorem byteV_in (y : CurV) : 0 ≤ byteV y ∧ byteV y ≤ 255 := (ex_l1Byte y).choose_spec.choose_spec.2
-- LENTB b_spec_l1Byte
theorem b_spec_l1Byte (y : CurV) {u : AV} (hu : u = .box (encCur y)) : SoundB P 29 [u] 0 (.int .i64 (byteV y)) (.box (encCur (byteC y))) := by
  subst hu; exact (ex_l1Byte y).choose_spec.choose_spec.1
noncomputable abbrev ib_spec_l1Byte := ConB.mk (P := P) (f := 29) Tryd.call29 @b_spec_l1Byte
attribute [instance] ib_spec_l1Byte
/-- A number below n; 0 where n is not above 0. -/
noncomputable def belC (y : CurV) (n : Int) : CurV := if n ≤ 0 then y else if n ≤ 256 then byteC y else byteC (byteC (byteC (byteC y)))
noncomputable def belV (y : CurV) (n : Int) : Int := if n ≤ 0 then 0 else if n ≤ 256 then (byteV y).tmod n else (byteV y * 16777216 + byteV (byteC y) * 65536 + byteV (byteC (byteC y)) * 256 + byteV (byteC (byteC (byteC y)))).tmod n
theorem belV_in (y : CurV) {n : Int} (h : 0 < n) : 0 ≤ belV y n ∧ belV y n < n := by
  have a := byteV_in y; have b := byteV_in (byteC y); have c := byteV_in (byteC (byteC y)); have d := byteV_in (byteC (byteC (byteC y)))
  unfold belV
  rw [if_neg (by omega)]
  split
  · exact ⟨Int.tmod_nonneg _ a.1, Int.tmod_lt_of_pos _ h⟩
  · exact ⟨Int.tmod_nonneg _ (by omega), Int.tmod_lt_of_pos _ h⟩
-- LENTB b_spec_l1Below
theorem b_spec_l1Below (y : CurV) (n : Int) {u : AV} (hu : u = .box (encCur y)) : SoundB P 23 [u, .int .i64 n] 0 (.int .i64 (belV y n)) (.box (encCur (belC y n))) := by
  subst hu
  have a := byteV_in y; have b := byteV_in (byteC y); have c := byteV_in (byteC (byteC y)); have d := byteV_in (byteC (byteC (byteC y)))
  by_cases h0 : n ≤ 0
  · have hd : decide (n ≤ 0) = true := decide_eq_true h0
    rw [belV, if_pos h0, belC, if_pos h0]
    clear a b c d h0
    exact wFnDa23_0
  have hd : decide (n ≤ 0) = false := decide_eq_false h0
  have hn : (n = 0) = False := by simp; omega
  by_cases h1 : n ≤ 256
  · have he : decide (n ≤ 256) = true := decide_eq_true h1
    rw [belV, if_neg h0, if_pos h1, belC, if_neg h0, if_pos h1]
    clear a b c d h0 h1
    exact wFnDa23_0
  · have he : decide (n ≤ 256) = false := decide_eq_false h1
    rw [belV, if_neg h0, if_neg h1, belC, if_neg h0, if_neg h1]
    have w1 : IntKind.i64.wrap (byteV y * 16777216) = byteV y * 16777216 := by rw [wrap_small] <;> omega
    have w2 : IntKind.i64.wrap (byteV (byteC y) * 65536) = byteV (byteC y) * 65536 := by rw [wrap_small] <;> omega
    have w3 : IntKind.i64.wrap (byteV (byteC (byteC y)) * 256) = byteV (byteC (byteC y)) * 256 := by rw [wrap_small] <;> omega
    have w4 : IntKind.i64.wrap (byteV y * 16777216 + byteV (byteC y) * 65536) = byteV y * 16777216 + byteV (byteC y) * 65536 := by rw [wrap_small] <;> omega
    have w5 : IntKind.i64.wrap (byteV y * 16777216 + byteV (byteC y) * 65536 + byteV (byteC (byteC y)) * 256) = byteV y * 16777216 + byteV (byteC y) * 65536 + byteV (byteC (byteC y)) * 256 := by rw [wrap_small] <;> omega
    have w6 : IntKind.i64.wrap (byteV y * 16777216 + byteV (byteC y) * 65536 + byteV (byteC (byteC y)) * 256 + byteV (byteC (byteC (byteC y)))) = byteV y * 16777216 + byteV (byteC y) * 65536 + byteV (byteC (byteC y)) * 256 + byteV (byteC (byteC (byteC y))) := by rw [wrap_small] <;> omega
    clear a b c d h0 h1
    exact wFnDa23_0
noncomputable abbrev ib_spec_l1Below := ConB.mk (P := P) (f := 23) Tryd.call23 @b_spec_l1Below
attribute [instance] ib_spec_l1Below
-- LENTB b_spec_l1Once
theorem b_spec_l1Once (y : CurV) (n : Int) {u : AV} (hu : u = .box (encCur y)) : SoundB P 14 [u, .int .i64 n] 0 (.bool (belV y n == 0)) (.box (encCur (belC y n))) := by
  subst hu
  exact wFnDa14_0
noncomputable abbrev ib_spec_l1Once := ConB.mk (P := P) (f := 14) Tryd.call14 @b_spec_l1Once
attribute [instance] ib_spec_l1Once
/-- One of these. -/
noncomputable def pickV (y : CurV) (ws : List ByteArray) : ByteArray := ws.getD (belV y ws.length).toNat { data := #[] }
noncomputable def pickN (y : CurV) (ns : List Int) : Int := ns.getD (belV y ns.length).toNat 0
theorem pickV_mem (y : CurV) {ws : List ByteArray} (h : ws ≠ []) : pickV y ws ∈ ws := by
  have hl : 0 < ws.length := List.length_pos_iff.2 h
  have hb := belV_in y (n := ws.length) (by omega)
  have hlt : (belV y ws.length).toNat < ws.length := by omega
  rw [pickV, List.getD_eq_getElem?_getD, List.getElem?_eq_getElem hlt, Option.getD_some]
  exact List.getElem_mem hlt
theorem pickN_mem (y : CurV) {ws : List Int} (h : ws ≠ []) : pickN y ws ∈ ws := by
  have hl : 0 < ws.length := List.length_pos_iff.2 h
  have hb := belV_in y (n := ws.length) (by omega)
  have hlt : (belV y ws.length).toNat < ws.length := by omega
  rw [pickN, List.getD_eq_getElem?_getD, List.getElem?_eq_getElem hlt, Option.getD_some]
  exact List.getElem_mem hlt
theorem plAs_S (f : List ByteArray) : plAs (f.map AV.str) = true := plAs_map (g := AV.str) (fun x => rfl) f
theorem alen_S (f : List ByteArray) : ((f.map AV.str).all fun u => alen u == 1) = true := alen_map (g := AV.str) (fun x => rfl) f
theorem plAs_N (f : List Int) : plAs (f.map (AV.int .i64)) = true := plAs_map (g := AV.int .i64) (fun x => rfl) f
theorem alen_N (f : List Int) : ((f.map (AV.int .i64)).all fun u => alen u == 1) = true := alen_map (g := AV.int .i64) (fun x => rfl) f
-- LENTB b_spec_l1Pick
theorem b_spec_l1Pick (y : CurV) (ws : List ByteArray) {u v : AV} {xs : List AV} (hu : u = .box (encCur y)) (hv : v = .lst false 1 xs) (hx : xs = ws.map AV.str) (hn : ws ≠ []) : SoundB P 12 [u, v] 0 (.str (pickV y ws)) (.box (encCur (belC y ws.length))) := by
  subst hx hu hv
  have hl : 0 < ws.length := List.length_pos_iff.2 hn
  have hb := belV_in y (n := ws.length) (by omega)
  have hlt : (belV y ws.length).toNat < ws.length := by omega
  have hg : ws[(belV y ws.length).toNat]? = some (pickV y ws) := by rw [pickV, List.getD_eq_getElem?_getD, List.getElem?_eq_getElem hlt, Option.getD_some]
  have h1 := plAs_S ws
  have h2 := alen_S ws
  obtain ⟨hb1, hb2⟩ := hb
  clear hlt hl
  exact wFnDa12_0
noncomputable abbrev ib_spec_l1Pick := ConB.mk (P := P) (f := 12) Tryd.call12 @b_spec_l1Pick
attribute [instance] ib_spec_l1Pick
end Go.Proofs.YtffpfjnakhpheaaDoor
